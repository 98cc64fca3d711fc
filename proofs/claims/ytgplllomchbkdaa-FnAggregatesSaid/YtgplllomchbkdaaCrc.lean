/- Crc16 of the program and of the reference. -/
import Derived.Test.YtgplllomchbkdaaRowF
namespace Go.Proofs.Ytgplllomchbkdaa
open Go.RowKit
set_option linter.unusedVariables false
set_option linter.unusedSimpArgs false

theorem reti {k : IntKind} {a b : Int} (h : a = b) : Ending.returned (.int k a) = .returned (.int k b) := by rw [h]
def crcBit (x : Nat) : Nat := if x % 2 = 1 then (x / 2) ^^^ 33800 else x / 2
def crcBits : Nat → Nat → Nat
  | 0, x => x
  | k + 1, x => crcBit (crcBits k x)
def crcByte (x : Nat) (c : Int) : Nat := crcBits 8 (x ^^^ c.toNat)
def crcR (xs : List Int) : Nat := xs.foldl crcByte 65535
def crcV (xs : List Int) : Nat := crcR xs ^^^ 65535
theorem crcBit_lt {x : Nat} (h : x < 65536) : crcBit x < 65536 := by
  unfold crcBit
  split
  · exact Nat.xor_lt_two_pow (n := 16) (by omega) (by omega)
  · omega
theorem crcBits_lt {x : Nat} (h : x < 65536) : ∀ k, crcBits k x < 65536
  | 0 => h
  | k + 1 => crcBit_lt (crcBits_lt h k)
theorem crcByte_lt {x : Nat} {c : Int} (h : x < 65536) (h0 : 0 ≤ c) (h1 : c ≤ 255) : x ^^^ c.toNat < 65536 := Nat.xor_lt_two_pow (n := 16) (by omega) (by omega)
theorem crcR_snoc (xs : List Int) (c : Int) : crcR (xs ++ [c]) = crcBits 8 (crcR xs ^^^ c.toNat) := by simp [crcR, crcByte, List.foldl_append]
theorem crcR_lt (xs : List Int) : (∀ x ∈ xs, 0 ≤ x ∧ x ≤ 255) → crcR xs < 65536 := by
  unfold crcR
  have : ∀ (xs : List Int) (s : Nat), s < 65536 → (∀ x ∈ xs, 0 ≤ x ∧ x ≤ 255) → xs.foldl crcByte s < 65536 := by
    intro xs
    induction xs with
    | nil => intro s hs _; exact hs
    | cons c xs ih =>
      intro s hs hb
      have hc := hb c (by simp)
      exact ih _ (crcBits_lt (crcByte_lt hs hc.1 hc.2) 8) (fun x hx => hb x (by simp [hx]))
  exact this xs 65535 (by decide)
theorem crcV_lt (xs : List Int) (h : ∀ x ∈ xs, 0 ≤ x ∧ x ≤ 255) : crcV xs < 65536 := Nat.xor_lt_two_pow (n := 16) (crcR_lt xs h) (by decide)
theorem i64_xor_nat (a b : Nat) (ha : a < 9223372036854775808) (hb : b < 9223372036854775808) : bits .xor .i64 (a : Int) (b : Int) = ((a ^^^ b : Nat) : Int) := by
  have hx : a ^^^ b < 2 ^ 63 := Nat.xor_lt_two_pow (by omega) (by omega)
  show IntKind.i64.wrap ((BitVec.ofInt 64 (a : Int) ^^^ BitVec.ofInt 64 (b : Int)).toNat : Int) = _
  rw [BitVec.toNat_xor, ofInt_i64 a ha, ofInt_i64 b hb, IntKind.wrap_i64]
  omega
theorem bit_odd {y : Nat} (h : y % 2 = 1) : crcBit y = (y / 2) ^^^ 33800 := by rw [crcBit, if_pos h]
theorem bit_even {y : Nat} (h : ¬ y % 2 = 1) : crcBit y = y / 2 := by rw [crcBit, if_neg h]
theorem crc_take (xs : List Int) (k : Nat) (h : k < xs.length) : crcR (xs.take (k + 1)) = crcBits 8 (crcR (xs.take k) ^^^ xs[k].toNat) := by
  rw [List.take_add_one, List.getElem?_eq_getElem h]; exact crcR_snoc _ _

set_option maxHeartbeats 2000000 in
theorem implCrc_any {u : Bool} {T : Nat → Prop} (A : Option Addr) (c : Nat) (xs : List Int) (w : World) (hx : Rw u .u8 w T A xs) (hm : xs.length ≤ 1000000000000) (hb : ∀ x ∈ xs, 0 ≤ x ∧ x ≤ 255) :
    Calls Try.prog 42 #[.slice A xs.length c] w fun e w' => e = .returned (.int .i64 (crcV xs : Nat)) ∧ w = w' := by
  have HX := Lib.hid hx
  have HB := Lib.hid hb
  clear hx hb
  go_enter Try.func42, Try.ntmps42
  go_wp2
  go_loop [3, 10] (fun v i => ∃ (k x : Nat), k ≤ xs.length ∧ i = .int .i64 (k : Int) ∧ v = .int .i64 (x : Int) ∧ x < 65536 ∧ Hid (x = crcR (xs.take k))) (fun _ i => xs.length - (intOf i).toNat)
  case atStart => exact ⟨0, 65535, Nat.zero_le _, rfl, rfl, by decide, Lib.hid rfl⟩
  case round =>
    obtain ⟨k, x, hk, rfl, rfl, hx, HE⟩ := hrel
    by_cases hlt : k < xs.length
    · obtain ⟨g, o, rfl, _, hg, hc, _⟩ := HX.out k hlt
      have hlt2 : (k : Int) < (xs.length : Int) := by omega
      have hbd := HB.out xs[k] (List.getElem_mem _)
      have hsn := crc_take xs k hlt
      rw [← HE.out] at hsn
      obtain ⟨y, hy⟩ := Int.eq_ofNat_of_zero_le hbd.1
      rw [hy] at hc hsn hbd
      obtain ⟨_, hy1⟩ := hbd
      have hxy : x ^^^ y < 65536 := Nat.xor_lt_two_pow (n := 16) (by omega) (by omega)
      have hxor := i64_xor_nat x y (by omega) (by omega)
      rw [show ((y : Int)).toNat = y from rfl] at hsn
      have HSN := Lib.hid hsn
      clear hsn hy
      generalize x ^^^ y = z at *
      go_wp2
      clear hxor
      go_loop [3, 6] (fun v i => ∃ (j s : Nat), j ≤ 8 ∧ i = .int .i64 (j : Int) ∧ v = .int .i64 (s : Int) ∧ s < 65536 ∧ Hid (s = crcBits j z)) (fun _ i => 8 - (intOf i).toNat)
      case atStart => exact ⟨0, z, by omega, rfl, rfl, hxy, Lib.hid rfl⟩
      case round =>
        obtain ⟨j, s, hj, rfl, rfl, hs, HS⟩ := hrel
        by_cases hj8 : j < 8
        · have hj2 : (j : Int) < 8 := by omega
          have hlt' : crcBit s < 65536 := crcBit_lt hs
          have HN : Hid (crcBit s = crcBits (j + 1) z) := Lib.hid (by rw [HS.out]; rfl)
          by_cases hodd : s % 2 = 1
          · have hand : bits .and .i64 (s : Int) 1 = 1 := by rw [and_one s (by omega), hodd]; rfl
            obtain ⟨m, hm2⟩ : ∃ m, s / 2 = m := ⟨_, rfl⟩
            have hdiv : (s : Int) / 2 = (m : Int) := by omega
            have hx2 := i64_xor_nat m 33800 (by omega) (by omega)
            have hx3 : bits .xor .i64 (m : Int) 33800 = (crcBit s : Int) := by rw [bit_odd hodd, hm2]; exact hx2
            clear hx2
            have HO := Lib.hid hodd
            clear hodd hm2
            generalize crcBit s = t at *
            go_wp2
            go_round
            case rel => exact ⟨j + 1, t, by omega, by go_num, by first | rfl | (simp [*]; done) | (rw [hdiv, hx3]) , hlt', HN⟩
            case measure => simp [intOf]; omega
          · have hand : bits .and .i64 (s : Int) 1 = 0 := by rw [and_one s (by omega), show s % 2 = 0 by omega]; rfl
            have hdiv : (s : Int) / 2 = (crcBit s : Int) := by rw [bit_even hodd]; omega
            have HO := Lib.hid hodd
            clear hodd
            generalize crcBit s = t at *
            go_wp2
            go_round
            case rel => exact ⟨j + 1, t, by omega, by go_num, by first | rfl | (simp [*]; done) | (rw [hdiv]), hlt', HN⟩
            case measure => simp [intOf]; omega
        · obtain rfl : j = 8 := by omega
          go_wp2
          go_round
          case rel => exact ⟨k + 1, s, by omega, by go_num, rfl, hs, Lib.hid (by rw [HSN.out, HS.out])⟩
          case measure => simp [intOf]; omega
    · obtain rfl : k = xs.length := by omega
      have hE : crcV xs = x ^^^ 65535 := by rw [crcV, HE.out, List.take_length]
      have hxor := i64_xor_nat x 65535 (by omega) (by omega)
      have hxor2 : bits .xor .i64 (x : Int) 65535 = ((x ^^^ 65535 : Nat) : Int) := hxor
      clear hxor
      generalize x ^^^ 65535 = z at *
      have HZ := Lib.hid hE
      clear hE
      go_wp2
      go_ret
      exact ⟨reti (by rw [HZ.out]), rfl⟩

set_option maxHeartbeats 2000000 in
theorem specCrc_any {u : Bool} {T : Nat → Prop} (A : Option Addr) (c : Nat) (xs : List Int) (w : World) (hx : Rw u .u8 w T A xs) (hm : xs.length ≤ 1000000000000) (hb : ∀ x ∈ xs, 0 ≤ x ∧ x ≤ 255) :
    Calls Try.prog 44 #[.slice A xs.length c] w fun e w' => e = .returned (.int .i64 (crcV xs : Nat)) ∧ w = w' := by
  have HX := Lib.hid hx
  have HB := Lib.hid hb
  clear hx hb
  go_enter Try.func44, Try.ntmps44
  go_wp2
  go_loop [3, 4] (fun v i => ∃ (k x : Nat), k ≤ xs.length ∧ i = .int .i64 (k : Int) ∧ v = .int .i64 (x : Int) ∧ x < 65536 ∧ Hid (x = crcR (xs.take k))) (fun _ i => xs.length - (intOf i).toNat)
  case atStart => exact ⟨0, 65535, Nat.zero_le _, rfl, rfl, by decide, Lib.hid rfl⟩
  case round =>
    obtain ⟨k, x, hk, rfl, rfl, hx, HE⟩ := hrel
    by_cases hlt : k < xs.length
    · obtain ⟨g, o, rfl, _, hg, hc, _⟩ := HX.out k hlt
      have hlt2 : (k : Int) < (xs.length : Int) := by omega
      have hbd := HB.out xs[k] (List.getElem_mem _)
      have hsn := crc_take xs k hlt
      rw [← HE.out] at hsn
      obtain ⟨y, hy⟩ := Int.eq_ofNat_of_zero_le hbd.1
      rw [hy] at hc hsn hbd
      obtain ⟨_, hy1⟩ := hbd
      have hxy : x ^^^ y < 65536 := Nat.xor_lt_two_pow (n := 16) (by omega) (by omega)
      have hxor := i64_xor_nat x y (by omega) (by omega)
      rw [show ((y : Int)).toNat = y from rfl] at hsn
      have HSN := Lib.hid hsn
      clear hsn hy
      generalize x ^^^ y = z at *
      go_wp2
      clear hxor
      go_loop [3, 5] (fun v i => ∃ (j s : Nat), j ≤ 8 ∧ i = .int .i64 (j : Int) ∧ v = .int .i64 (s : Int) ∧ s < 65536 ∧ Hid (s = crcBits j z)) (fun _ i => 8 - (intOf i).toNat)
      case atStart => exact ⟨0, z, by omega, rfl, rfl, hxy, Lib.hid rfl⟩
      case round =>
        obtain ⟨j, s, hj, rfl, rfl, hs, HS⟩ := hrel
        by_cases hj8 : j < 8
        · have hj2 : (j : Int) < 8 := by omega
          have hlt' : crcBit s < 65536 := crcBit_lt hs
          have HN : Hid (crcBit s = crcBits (j + 1) z) := Lib.hid (by rw [HS.out]; rfl)
          by_cases hodd : s % 2 = 1
          · have hand : bits .and .i64 (s : Int) 1 = 1 := by rw [and_one s (by omega), hodd]; rfl
            obtain ⟨m, hm2⟩ : ∃ m, s / 2 = m := ⟨_, rfl⟩
            have hdiv : (s : Int) / 2 = (m : Int) := by omega
            have hx2 := i64_xor_nat m 33800 (by omega) (by omega)
            have hx3 : bits .xor .i64 (m : Int) 33800 = (crcBit s : Int) := by rw [bit_odd hodd, hm2]; exact hx2
            clear hx2
            have HO := Lib.hid hodd
            clear hodd hm2
            generalize crcBit s = t at *
            go_wp2
            go_round
            case rel => exact ⟨j + 1, t, by omega, by go_num, by first | rfl | (simp [*]; done) | (rw [hdiv, hx3]) , hlt', HN⟩
            case measure => simp [intOf]; omega
          · have hand : bits .and .i64 (s : Int) 1 = 0 := by rw [and_one s (by omega), show s % 2 = 0 by omega]; rfl
            have hdiv : (s : Int) / 2 = (crcBit s : Int) := by rw [bit_even hodd]; omega
            have HO := Lib.hid hodd
            clear hodd
            generalize crcBit s = t at *
            go_wp2
            go_round
            case rel => exact ⟨j + 1, t, by omega, by go_num, by first | rfl | (simp [*]; done) | (rw [hdiv]), hlt', HN⟩
            case measure => simp [intOf]; omega
        · obtain rfl : j = 8 := by omega
          go_wp2
          go_round
          case rel => exact ⟨k + 1, s, by omega, by go_num, rfl, hs, Lib.hid (by rw [HSN.out, HS.out])⟩
          case measure => simp [intOf]; omega
    · obtain rfl : k = xs.length := by omega
      have hE : crcV xs = x ^^^ 65535 := by rw [crcV, HE.out, List.take_length]
      have hxor := i64_xor_nat x 65535 (by omega) (by omega)
      have hxor2 : bits .xor .i64 (x : Int) 65535 = ((x ^^^ 65535 : Nat) : Int) := hxor
      clear hxor
      generalize x ^^^ 65535 = z at *
      have HZ := Lib.hid hE
      clear hE
      go_wp2
      go_ret
      exact ⟨reti (by rw [HZ.out]), rfl⟩

end Go.Proofs.Ytgplllomchbkdaa
