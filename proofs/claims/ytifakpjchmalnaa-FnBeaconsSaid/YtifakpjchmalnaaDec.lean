/- ReadUvarint, DecodeInts of the program and of the reference. -/
import Derived.Test.YtifakpjchmalnaaEncB
namespace Go.Proofs.Ytifakpjchmalnaa
open Go.RowKit
set_option linter.unusedVariables false
set_option linter.unusedSimpArgs false

def rdv (xs : List Int) (off : Nat) : Nat → Nat → Nat → Option (Nat × Nat)
  | 0, _, _ => none
  | f + 1, k, n => match xs[off + k]? with
    | none => none
    | some c =>
      if c < 128 then (if (0 < k ∧ c = 0) ∨ 1000000000000 < n + c.toNat % 128 * 2 ^ (7 * k) then none else some (n + c.toNat % 128 * 2 ^ (7 * k), off + k + 1))
      else rdv xs off f (k + 1) (n + c.toNat % 128 * 2 ^ (7 * k))
def readU (xs : List Int) (at_ : Int) : Option (Nat × Nat) := if 0 ≤ at_ then rdv xs at_.toNat 6 0 0 else none
def rdE : Option (Nat × Nat) → Ending
  | some (n, x) => .returned (.tuple #[.int .i64 (n : Int), .int .i64 (x : Int), .bool true])
  | none => .returned (.tuple #[.int .i64 0, .int .i64 0, .bool false])
theorem rdv_none {xs : List Int} {off f k n : Nat} (h : xs.length ≤ off + k) : rdv xs off f k n = none := by
  cases f
  · rfl
  · rw [rdv, List.getElem?_eq_none h]
theorem rdv_at {xs : List Int} {off f k n : Nat} {c : Int} (h : xs[off + k]? = some c) : rdv xs off (f + 1) k n =
    if c < 128 then (if (0 < k ∧ c = 0) ∨ 1000000000000 < n + c.toNat % 128 * 2 ^ (7 * k) then none else some (n + c.toNat % 128 * 2 ^ (7 * k), off + k + 1))
      else rdv xs off f (k + 1) (n + c.toNat % 128 * 2 ^ (7 * k)) := by
  rw [rdv, h]
theorem pow7_le {k : Nat} (h : k ≤ 5) : 2 ^ (7 * k) ≤ 34359738368 := Nat.le_trans (Nat.pow_le_pow_right (by omega) (by omega : 7 * k ≤ 35)) (by decide)

theorem wrapB (x : Int) (k : Nat) (hx : 0 ≤ x ∧ x ≤ 255) (hk : k < 6) : wrap64 (x % 128 * 2 ^ (7 * k)) = ((x.toNat % 128 * 2 ^ (7 * k) : Nat) : Int) ∧ x.toNat % 128 * 2 ^ (7 * k) ≤ 4363686772736 := by
  have h1 := pow7_le (k := k) (by omega)
  have h2 : x.toNat % 128 * 2 ^ (7 * k) ≤ 127 * 34359738368 := Nat.mul_le_mul (by omega) h1
  have e : x % 128 * 2 ^ (7 * k) = ((x.toNat % 128 * 2 ^ (7 * k) : Nat) : Int) := by
    rw [Int.natCast_mul, ← pow_cast]
    congr 1
    omega
  refine ⟨?_, by omega⟩
  rw [e]
  unfold wrap64
  omega
theorem orB (m y k : Nat) (hm : m < 2 ^ (7 * k)) (hk : k < 6) (hy : y < 128) : bits .or .i64 (m : Int) ((y * 2 ^ (7 * k) : Nat) : Int) = ((m + y * 2 ^ (7 * k) : Nat) : Int) := by
  have h1 := pow7_le (k := k) (by omega)
  have h2 : y * 2 ^ (7 * k) ≤ 127 * 34359738368 := Nat.mul_le_mul (by omega) h1
  rw [i64_or_nat m _ (by omega) (by omega), Nat.or_comm, Nat.mul_comm, ← Nat.two_pow_add_eq_or_of_lt hm, Nat.add_comm]
theorem next7 {m y k : Nat} (hm : m < 2 ^ (7 * k)) (hy : y < 128) : m + y * 2 ^ (7 * k) < 2 ^ (7 * (k + 1)) := by
  have e : 2 ^ (7 * (k + 1)) = 128 * 2 ^ (7 * k) := by rw [Nat.mul_add, Nat.pow_add, Nat.mul_comm]
  rw [e]
  have : y * 2 ^ (7 * k) ≤ 127 * 2 ^ (7 * k) := Nat.mul_le_mul_right _ (by omega)
  omega

set_option maxRecDepth 8000 in
set_option maxHeartbeats 2000000 in
theorem implReadN_any {u : Bool} {T : Nat → Prop} (A : Option Addr) (c : Nat) (xs : List Int) (off : Nat) (w : World) (hx : Rw u .u8 w T A xs) (hm : xs.length ≤ 100000000000) (hb : ∀ x ∈ xs, 0 ≤ x ∧ x ≤ 255) (hoff : off < xs.length) :
    Calls Try.prog 57 #[.slice A xs.length c, .int .i64 (off : Int)] w fun e w' => e = rdE (readU xs (off : Int)) ∧ w = w' := by
  have HX := Lib.hid hx
  have HB := Lib.hid hb
  clear hx hb
  have hof2 : (off : Int) < (xs.length : Int) := by omega
  go_enter Try.func57, Try.ntmps57
  go_wp2
  go_loop [7, 8] (fun n i => ∃ k m : Nat, k ≤ 6 ∧ i = .int .i64 (k : Int) ∧ n = .int .i64 (m : Int) ∧ m < 4398046511105 ∧ Hid (m < 2 ^ (7 * k)) ∧ Hid (readU xs (off : Int) = rdv xs off (6 - k) k m)) (fun _ i => 6 - (intOf i).toNat)
  case atStart => exact ⟨0, 0, by omega, rfl, rfl, by omega, Lib.hid (by decide), Lib.hid (by simp [readU])⟩
  case round =>
    obtain ⟨k, m, hk, rfl, rfl, hml, hmk, hrd⟩ := hrel
    by_cases hk6 : k < 6
    · by_cases hlt : off + k < xs.length
      · obtain ⟨g, o, rfl, _, _, hc, _⟩ := HX.out (off + k) hlt
        have hlt2 : (off : Int) + (k : Int) < (xs.length : Int) := by omega
        have hxb := HB.out _ (List.getElem_mem hlt)
        have hxe : xs[off + k]? = some xs[off + k] := List.getElem?_eq_getElem hlt
        generalize xs[off + k] = x at hc hxb hxe
        obtain ⟨hwb, hBe⟩ := wrapB x k hxb hk6
        have HM := next7 (y := x.toNat % 128) hmk.out (by omega)
        have hst : readU xs (off : Int) = if x < 128 then (if (0 < k ∧ x = 0) ∨ 1000000000000 < m + x.toNat % 128 * 2 ^ (7 * k) then none else some (m + x.toNat % 128 * 2 ^ (7 * k), off + k + 1))
            else rdv xs off (6 - (k + 1)) (k + 1) (m + x.toNat % 128 * 2 ^ (7 * k)) := by
          rw [hrd.out, show 6 - k = (6 - (k + 1)) + 1 by omega, rdv_at hxe]
        have hk35 := pow7_le (k := k) (by omega)
        have hmk2 := hmk.out
        have hm35 : m ≤ 34359738368 := by omega
        clear hmk2 hk35
        have HB0 : Hid (x = 0 → x.toNat % 128 * 2 ^ (7 * k) = 0) := Lib.hid (by rintro rfl; simp)
        generalize x.toNat % 128 * 2 ^ (7 * k) = B at HB0 hwb hBe HM hst
        have HST := Lib.hid hst
        have HMM := Lib.hid HM
        clear hst hxe HM
        by_cases hx8 : x < 128
        · by_cases hbad : (0 < k ∧ x = 0) ∨ 1000000000000 < m + B
          · have HE : Hid (rdE (readU xs (off : Int)) = .returned (.tuple #[.int .i64 0, .int .i64 0, .bool false])) := Lib.hid (by rw [HST.out, if_pos hx8, if_pos hbad]; rfl)
            by_cases hx0 : x = 0
            · obtain rfl : B = 0 := HB0.out hx0
              subst hx0
              by_cases hk0 : 0 < k
              · go_wp2
                all_goals go_returns
                all_goals exact ⟨HE.out.symm, rfl⟩
              · have hgt : 1000000000000 < m := by omega
                clear hbad
                go_wp2
                all_goals go_returns
                all_goals exact ⟨HE.out.symm, rfl⟩
            · have hgt : 1000000000000 < m + B := by omega
              clear hbad
              go_wp2
              all_goals go_returns
              all_goals exact ⟨HE.out.symm, rfl⟩
          · have HE : Hid (rdE (readU xs (off : Int)) = .returned (.tuple #[.int .i64 ((m + B : Nat) : Int), .int .i64 ((off + k + 1 : Nat) : Int), .bool true])) := Lib.hid (by rw [HST.out, if_pos hx8, if_neg hbad]; rfl)
            have hle : m + B ≤ 1000000000000 := by omega
            by_cases hk0 : 0 < k
            · have hx0 : (x == 0) = false := by simp; omega
              clear hbad
              go_wp2
              all_goals go_returns
              all_goals exact ⟨by rw [HE.out]; simp, rfl⟩
            · clear hbad
              by_cases hx0 : x = 0
              · obtain rfl : B = 0 := HB0.out hx0
                subst hx0
                simp only [Nat.add_zero] at hle
                go_wp2
                all_goals go_returns
                all_goals exact ⟨by rw [HE.out]; simp, rfl⟩
              · go_wp2
                all_goals go_returns
                all_goals exact ⟨by rw [HE.out]; simp, rfl⟩
        · go_wp2
          go_round
          case rel => exact ⟨k + 1, m + B, by omega, by go_num, by go_num, by omega, HMM, Lib.hid (by rw [HST.out, if_neg hx8])⟩
          case measure => simp [intOf]; omega
      · have HE : Hid (rdE (readU xs (off : Int)) = .returned (.tuple #[.int .i64 0, .int .i64 0, .bool false])) := Lib.hid (by rw [hrd.out, rdv_none (by omega)]; rfl)
        have hge : (xs.length : Int) ≤ (off : Int) + (k : Int) := by omega
        go_wp2
        all_goals go_returns
        all_goals exact ⟨HE.out.symm, rfl⟩
    · obtain rfl : k = 6 := by omega
      have HE : Hid (rdE (readU xs (off : Int)) = .returned (.tuple #[.int .i64 0, .int .i64 0, .bool false])) := Lib.hid (by rw [hrd.out]; rfl)
      go_wp2
      all_goals go_returns
      all_goals exact ⟨HE.out.symm, rfl⟩

set_option maxRecDepth 8000 in
set_option maxHeartbeats 2000000 in
theorem implRead_any {u : Bool} {T : Nat → Prop} (A : Option Addr) (c : Nat) (xs : List Int) (at_ : Int) (w : World) (hx : Rw u .u8 w T A xs) (hm : xs.length ≤ 100000000000) (hb : ∀ x ∈ xs, 0 ≤ x ∧ x ≤ 255) :
    Calls Try.prog 57 #[.slice A xs.length c, .int .i64 at_] w fun e w' => e = rdE (readU xs at_) ∧ w = w' := by
  by_cases h0 : at_ < 0
  · have HE : Hid (rdE (readU xs at_) = .returned (.tuple #[.int .i64 0, .int .i64 0, .bool false])) := Lib.hid (by rw [readU, if_neg (by omega)]; rfl)
    clear hx hb
    go_enter Try.func57, Try.ntmps57
    go_wp2
    go_returns
    exact ⟨HE.out.symm, rfl⟩
  · obtain ⟨off, rfl⟩ := Int.eq_ofNat_of_zero_le (show 0 ≤ at_ by omega)
    by_cases hlt : off < xs.length
    · exact implReadN_any A c xs off w hx hm hb hlt
    · have HE : Hid (rdE (readU xs (off : Int)) = .returned (.tuple #[.int .i64 0, .int .i64 0, .bool false])) := Lib.hid (by rw [readU, if_pos (by omega), Int.toNat_natCast, rdv_none (by omega)]; rfl)
      clear hx hb
      have hge : (xs.length : Int) ≤ (off : Int) := by omega
      go_enter Try.func57, Try.ntmps57
      go_wp2
      go_returns
      exact ⟨HE.out.symm, rfl⟩

set_option maxRecDepth 8000 in
set_option maxHeartbeats 2000000 in
theorem specReadN_any {u : Bool} {T : Nat → Prop} (A : Option Addr) (c : Nat) (xs : List Int) (off : Nat) (w : World) (hx : Rw u .u8 w T A xs) (hm : xs.length ≤ 100000000000) (hb : ∀ x ∈ xs, 0 ≤ x ∧ x ≤ 255) (hoff : off < xs.length) :
    Calls Try.prog 59 #[.slice A xs.length c, .int .i64 (off : Int)] w fun e w' => e = rdE (readU xs (off : Int)) ∧ w = w' := by
  have HX := Lib.hid hx
  have HB := Lib.hid hb
  clear hx hb
  have hof2 : (off : Int) < (xs.length : Int) := by omega
  go_enter Try.func59, Try.ntmps59
  go_wp2
  go_loop [7, 8] (fun n i => ∃ k m : Nat, k ≤ 6 ∧ i = .int .i64 (k : Int) ∧ n = .int .i64 (m : Int) ∧ m < 4398046511105 ∧ Hid (m < 2 ^ (7 * k)) ∧ Hid (readU xs (off : Int) = rdv xs off (6 - k) k m)) (fun _ i => 6 - (intOf i).toNat)
  case atStart => exact ⟨0, 0, by omega, rfl, rfl, by omega, Lib.hid (by decide), Lib.hid (by simp [readU])⟩
  case round =>
    obtain ⟨k, m, hk, rfl, rfl, hml, hmk, hrd⟩ := hrel
    by_cases hk6 : k < 6
    · by_cases hlt : off + k < xs.length
      · obtain ⟨g, o, rfl, _, _, hc, _⟩ := HX.out (off + k) hlt
        have hlt2 : (off : Int) + (k : Int) < (xs.length : Int) := by omega
        have hxb := HB.out _ (List.getElem_mem hlt)
        have hxe : xs[off + k]? = some xs[off + k] := List.getElem?_eq_getElem hlt
        generalize xs[off + k] = x at hc hxb hxe
        obtain ⟨hwb, hBe⟩ := wrapB x k hxb hk6
        have HM := next7 (y := x.toNat % 128) hmk.out (by omega)
        have hst : readU xs (off : Int) = if x < 128 then (if (0 < k ∧ x = 0) ∨ 1000000000000 < m + x.toNat % 128 * 2 ^ (7 * k) then none else some (m + x.toNat % 128 * 2 ^ (7 * k), off + k + 1))
            else rdv xs off (6 - (k + 1)) (k + 1) (m + x.toNat % 128 * 2 ^ (7 * k)) := by
          rw [hrd.out, show 6 - k = (6 - (k + 1)) + 1 by omega, rdv_at hxe]
        have e1 : bits .and .i64 x 127 = x % 128 := by
          obtain ⟨y, rfl⟩ := Int.eq_ofNat_of_zero_le hxb.1
          exact and127 y (by omega)
        have e2 := orB m (x.toNat % 128) k hmk.out hk6 (by omega)
        have hk35 := pow7_le (k := k) (by omega)
        have hmk2 := hmk.out
        have hm35 : m ≤ 34359738368 := by omega
        clear hmk2 hk35
        have HB0 : Hid (x = 0 → x.toNat % 128 * 2 ^ (7 * k) = 0) := Lib.hid (by rintro rfl; simp)
        generalize x.toNat % 128 * 2 ^ (7 * k) = B at HB0 hwb hBe HM e2 hst
        have HST := Lib.hid hst
        have HMM := Lib.hid HM
        clear hst hxe HM
        by_cases hx8 : x < 128
        · by_cases hbad : (0 < k ∧ x = 0) ∨ 1000000000000 < m + B
          · have HE : Hid (rdE (readU xs (off : Int)) = .returned (.tuple #[.int .i64 0, .int .i64 0, .bool false])) := Lib.hid (by rw [HST.out, if_pos hx8, if_pos hbad]; rfl)
            by_cases hx0 : x = 0
            · obtain rfl : B = 0 := HB0.out hx0
              subst hx0
              by_cases hk0 : 0 < k
              · go_wp2
                all_goals go_returns
                all_goals exact ⟨HE.out.symm, rfl⟩
              · have hgt : 1000000000000 < m := by omega
                clear hbad
                have e3 : bits .or .i64 (m : Int) 0 = (m : Int) := by simpa using e2
                go_wp2
                all_goals go_returns
                all_goals exact ⟨HE.out.symm, rfl⟩
            · have hgt : 1000000000000 < m + B := by omega
              clear hbad
              go_wp2
              all_goals go_returns
              all_goals exact ⟨HE.out.symm, rfl⟩
          · have HE : Hid (rdE (readU xs (off : Int)) = .returned (.tuple #[.int .i64 ((m + B : Nat) : Int), .int .i64 ((off + k + 1 : Nat) : Int), .bool true])) := Lib.hid (by rw [HST.out, if_pos hx8, if_neg hbad]; rfl)
            have hle : m + B ≤ 1000000000000 := by omega
            by_cases hk0 : 0 < k
            · have hx0 : (x == 0) = false := by simp; omega
              clear hbad
              go_wp2
              all_goals go_returns
              all_goals exact ⟨by rw [HE.out]; simp, rfl⟩
            · clear hbad
              by_cases hx0 : x = 0
              · obtain rfl : B = 0 := HB0.out hx0
                subst hx0
                simp only [Nat.add_zero] at hle
                have e3 : bits .or .i64 (m : Int) 0 = (m : Int) := by simpa using e2
                go_wp2
                all_goals go_returns
                all_goals exact ⟨by rw [HE.out]; simp, rfl⟩
              · go_wp2
                all_goals go_returns
                all_goals exact ⟨by rw [HE.out]; simp, rfl⟩
        · go_wp2
          go_round
          case rel => exact ⟨k + 1, m + B, by omega, by go_num, by go_num, by omega, HMM, Lib.hid (by rw [HST.out, if_neg hx8])⟩
          case measure => simp [intOf]; omega
      · have HE : Hid (rdE (readU xs (off : Int)) = .returned (.tuple #[.int .i64 0, .int .i64 0, .bool false])) := Lib.hid (by rw [hrd.out, rdv_none (by omega)]; rfl)
        have hge : (xs.length : Int) ≤ (off : Int) + (k : Int) := by omega
        go_wp2
        all_goals go_returns
        all_goals exact ⟨HE.out.symm, rfl⟩
    · obtain rfl : k = 6 := by omega
      have HE : Hid (rdE (readU xs (off : Int)) = .returned (.tuple #[.int .i64 0, .int .i64 0, .bool false])) := Lib.hid (by rw [hrd.out]; rfl)
      go_wp2
      all_goals go_returns
      all_goals exact ⟨HE.out.symm, rfl⟩

set_option maxRecDepth 8000 in
set_option maxHeartbeats 2000000 in
theorem specRead_any {u : Bool} {T : Nat → Prop} (A : Option Addr) (c : Nat) (xs : List Int) (at_ : Int) (w : World) (hx : Rw u .u8 w T A xs) (hm : xs.length ≤ 100000000000) (hb : ∀ x ∈ xs, 0 ≤ x ∧ x ≤ 255) :
    Calls Try.prog 59 #[.slice A xs.length c, .int .i64 at_] w fun e w' => e = rdE (readU xs at_) ∧ w = w' := by
  by_cases h0 : at_ < 0
  · have HE : Hid (rdE (readU xs at_) = .returned (.tuple #[.int .i64 0, .int .i64 0, .bool false])) := Lib.hid (by rw [readU, if_neg (by omega)]; rfl)
    clear hx hb
    go_enter Try.func59, Try.ntmps59
    go_wp2
    refine wp_loop_rounds 1 ?_
    rw [rounds_succ]
    go_wp2
    go_returns
    exact ⟨HE.out.symm, rfl⟩
  · obtain ⟨off, rfl⟩ := Int.eq_ofNat_of_zero_le (show 0 ≤ at_ by omega)
    by_cases hlt : off < xs.length
    · exact specReadN_any A c xs off w hx hm hb hlt
    · have HE : Hid (rdE (readU xs (off : Int)) = .returned (.tuple #[.int .i64 0, .int .i64 0, .bool false])) := Lib.hid (by rw [readU, if_pos (by omega), Int.toNat_natCast, rdv_none (by omega)]; rfl)
      clear hx hb
      have hge : (xs.length : Int) ≤ (off : Int) := by omega
      go_enter Try.func59, Try.ntmps59
      go_wp2
      refine wp_loop_rounds 1 ?_
      rw [rounds_succ]
      go_wp2
      go_returns
      exact ⟨HE.out.symm, rfl⟩

end Go.Proofs.Ytifakpjchmalnaa
