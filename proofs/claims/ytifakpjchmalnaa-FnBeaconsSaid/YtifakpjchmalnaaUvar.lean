/- AppendUvarint of the program and of the reference. -/
import Derived.Test.YtifakpjchmalnaaCopy
namespace Go.Proofs.Ytifakpjchmalnaa
open Go.RowKit
set_option linter.unusedVariables false
set_option linter.unusedSimpArgs false

def uv : Nat → Nat → List Int
  | 0, _ => []
  | f + 1, n => if n < 128 then [(n : Int)] else ((n : Int) % 128 + 128) :: uv f (n / 128)
def uvar (n : Int) : List Int := if inR n 0 1000000000000 then uv 6 n.toNat else []
theorem uv_len : ∀ f n : Nat, (uv f n).length ≤ f
  | 0, _ => by simp [uv]
  | f + 1, n => by
    rw [uv]
    split
    · simp
    · simp only [List.length_cons]; have := uv_len f (n / 128); omega
theorem and127 (m : Nat) (h : m < 9223372036854775808) : bits .and .i64 (m : Int) 127 = (m : Int) % 128 := by
  have h1 := i64_and_nat m 127 h (by omega)
  rw [show (127 : Nat) = 2 ^ 7 - 1 by decide, Nat.and_two_pow_sub_one_eq_mod] at h1
  have h2 : ((2 ^ 7 - 1 : Nat) : Int) = 127 := by decide
  rw [h2] at h1
  rw [h1]; omega
theorem or128 (m : Nat) : bits .or .i64 ((m : Int) % 128) 128 = (m : Int) % 128 + 128 := by
  have h1 := i64_or_nat (m % 128) 128 (by omega) (by omega)
  have h3 : m % 128 ||| 128 = m % 128 + 128 := by
    have := Nat.two_pow_add_eq_or_of_lt (i := 7) (b := m % 128) (by omega) 1
    simp only [Nat.reducePow, Nat.reduceMul, Nat.mul_one] at this
    rw [Nat.or_comm, ← this]
    omega
  rw [h3] at h1
  have e : ((m % 128 : Nat) : Int) = (m : Int) % 128 := by omega
  rw [e] at h1
  rw [show ((128 : Nat) : Int) = 128 from rfl] at h1
  rw [h1]
  omega

set_option maxRecDepth 8000 in
set_option maxHeartbeats 2000000 in
theorem implUvar_any {u : Bool} {T : Nat → Prop} (A : Option Addr) (c : Nat) (xs : List Int) (n : Int) (w : World) (hx : Rw u .u8 w T A xs) (hm : xs.length ≤ 100000000000) :
    Calls Try.prog 58 #[.slice A xs.length c, .int .i64 n] w fun e w' => NewB w e w' (xs ++ uvar n) := by
  obtain ⟨i0, hi, hz0, hz1, hz2⟩ := info_parts infoU8
  cases hn : inR n 0 1000000000000
  · have hu : uvar n = [] := by simp [uvar, hn]
    rw [hu, List.append_nil]
    go_enter Try.func58, Try.ntmps58
    go_wp2_with (first | (go_at_call 60; refine (copyBytes_any A c xs _ hx (by omega)).mono ?_; rintro e w' ⟨g, cap, X, d, rfl, rfl, hg, hown⟩; clear hx) | (go_at_call 39; refine (inRange_any _ _ _ _).mono ?_; rintro e w' ⟨rfl, rfl⟩))
    go_wp2_with (first | fail)
    go_ret
    exact ⟨g, cap, X, d, rfl, rfl, hg, hown⟩
  · have hn2 := inR_true hn
    obtain ⟨m0, rfl⟩ := Int.eq_ofNat_of_zero_le hn2.1
    have hu : uvar (m0 : Int) = uv 6 m0 := by simp [uvar, hn]
    have HU := Lib.hid hu
    clear hu
    have hm0 : m0 ≤ 1000000000000 := by omega
    clear hn2
    go_enter Try.func58, Try.ntmps58
    go_wp2_with (first | (go_at_call 60; refine (copyBytes_any A c xs _ hx (by omega)).mono ?_; rintro e w' ⟨g, cap, X, d, rfl, rfl, hg, hown⟩; clear hx) | (go_at_call 39; refine (inRange_any _ _ _ _).mono ?_; rintro e w' ⟨rfl, rfl⟩))
    go_wp2_with (first | fail)
    go_loopw [1, 5] (fun q v wr => ∃ (f m g cap : Nat) (X : List Obj) (d : Nat) (done : List Int), q = .int .i64 (m : Int) ∧ v = .slice (some ⟨g, 0, none⟩) (xs.length + done.length) cap ∧ wr = World.ext w X d ∧ 1 ≤ f ∧ f ≤ 6 ∧ done.length ≤ 6 - f ∧ m ≤ m0 ∧ w.heap.size ≤ g ∧
        Hid (m < 128 ^ f ∧ done ++ uv f m = uv 6 m0) ∧ wr.ownsRow w.heap.size 5 1 v (xs.length + done.length) ((xs ++ done).map (Value.int .u8)))
      (fun q _ _ => (intOf q).toNat)
    case atStart => exact ⟨6, m0, g, cap, X, d, [], rfl, by simp, rfl, by omega, by omega, by simp, Nat.le_refl _, hg, ⟨by omega, by simp⟩, by simpa using hown⟩
    case round =>
      clear hg hown
      obtain ⟨f, m, g, cap, X, d, done, rfl, rfl, rfl, hf1, hf6, hdl, hmm, hg, hfm, hown⟩ := hrel
      have hlen : xs.length + done.length ≤ 100000000010 := by omega
      by_cases hlt : m < 128
      · have hfin : done ++ [(m : Int)] = uv 6 m0 := by
          rw [← hfm.out.2]
          obtain ⟨f', rfl⟩ : ∃ f', f = f' + 1 := ⟨f - 1, by omega⟩
          rw [uv, if_pos hlt]
        have HFIN := Lib.hid hfin
        clear hfin
        go_wp2_with (first | (at_builtin; refine wpList_append_own _ rfl _ _ 32 rfl w.heap.size 5 i0 (.int .u8 0) 1 1 Try.underlying32 hi hz0 hz1 hz2 rfl (by decide) _ _ _ rfl (hown.alloc _) ⟨w.heap.size + X.length, 0, none⟩ 1 1 [.int .u8 (m : Int)] rfl rfl ?c1 ?c2 ?c3 ?c4 ?c5 ?_))
        case c1 =>
          intro j u hj
          match j, hj with
          | 0, hj => simp at hj; subst hj; simp [Addr.add, go_sem]
        case c2 => intro u hu; simp at hu; subst hu; rfl
        case c3 => unfold maxLen; simp; omega
        case c4 => simp <;> omega
        case c5 => simp <;> omega
        · intro v' w1 hown' hgrow hnil
          obtain ⟨g', cap', rfl, hg'⟩ := own_some hown' (by intro h; simp [h] at hnil)
          have hbe : Below w.heap.size w w1 := ((Below.ext (Below.refl _ _) (Nat.le_refl _) X d).alloc (by simp <;> omega) _).grown hgrow (by simp <;> omega) (own_ge hown)
          obtain ⟨X', d', rfl⟩ := Below.ext_ hbe
          clear hgrow hbe hown hnil
          go_wp2
          go_ret
          rw [HU.out, ← HFIN.out]
          refine ⟨g', cap', X', d', by simp [Nat.add_assoc], rfl, hg', ?_⟩
          simpa [Nat.add_assoc] using hown'
      · have hge : 128 ≤ m := by omega
        have e1 : (m : Int) % 128 + 128 ≤ 255 := by omega
        go_wp2_with (first | (at_builtin; refine wpList_append_own _ rfl _ _ 32 rfl w.heap.size 5 i0 (.int .u8 0) 1 1 Try.underlying32 hi hz0 hz1 hz2 rfl (by decide) _ _ _ rfl (hown.alloc _) ⟨w.heap.size + X.length, 0, none⟩ 1 1 [.int .u8 ((m : Int) % 128 + 128)] rfl rfl ?e1 ?e2 ?e3 ?e4 ?e5 ?_))
        case e1 =>
          intro j u hj
          match j, hj with
          | 0, hj => simp at hj; subst hj; simp [Addr.add, go_sem]
        case e2 => intro u hu; simp at hu; subst hu; rfl
        case e3 => unfold maxLen; simp; omega
        case e4 => simp <;> omega
        case e5 => simp <;> omega
        · intro v' w1 hown' hgrow hnil
          obtain ⟨g', cap', rfl, hg'⟩ := own_some hown' (by intro h; simp [h] at hnil)
          have hbe : Below w.heap.size w w1 := ((Below.ext (Below.refl _ _) (Nat.le_refl _) X d).alloc (by simp <;> omega) _).grown hgrow (by simp <;> omega) (own_ge hown)
          obtain ⟨X', d', rfl⟩ := Below.ext_ hbe
          clear hgrow hbe hown hnil
          go_wp2
          have h0 : f ≠ 1 := by rintro rfl; have := hfm.out.1; omega
          obtain ⟨f', rfl⟩ : ∃ f', f = f' + 1 := ⟨f - 1, by omega⟩
          refine ⟨⟨f', m / 128, g', cap', X', d', done ++ [(m : Int) % 128 + 128], by go_num, by simp [Nat.add_assoc], rfl, by omega, by omega, by simp; omega, by omega, hg', ⟨?_, ?_⟩, by simpa [Nat.add_assoc] using hown'⟩, by simp [intOf]; omega⟩
          · have := hfm.out.1
            rw [Nat.pow_succ] at this
            exact Nat.div_lt_of_lt_mul (by rw [Nat.mul_comm]; exact this)
          · have := hfm.out.2
            rw [uv, if_neg hlt] at this
            rw [← this]; simp

set_option maxRecDepth 8000 in
set_option maxHeartbeats 2000000 in
theorem specUvar_any {u : Bool} {T : Nat → Prop} (A : Option Addr) (c : Nat) (xs : List Int) (n : Int) (w : World) (hx : Rw u .u8 w T A xs) (hm : xs.length ≤ 100000000000) :
    Calls Try.prog 55 #[.slice A xs.length c, .int .i64 n] w fun e w' => NewB w e w' (xs ++ uvar n) := by
  obtain ⟨i0, hi, hz0, hz1, hz2⟩ := info_parts infoU8
  have hR := hx.rwF.reads
  have HR := Lib.hid hR
  clear hx hR
  cases hn : inR n 0 1000000000000
  · have hu : uvar n = [] := by simp [uvar, hn]
    rw [hu, List.append_nil]
    go_enter Try.func55, Try.ntmps55
    go_wp2_with (first | (at_builtin; refine wpList_append_any _ rfl _ _ 32 rfl w.heap.size 5 i0 (.int .u8 0) 1 1 Try.underlying32 hi hz0 hz1 hz2 rfl (by decide) (.slice (some ⟨w.heap.size, 0, none⟩) 0 0) 0 [] rfl (own_new (Nat.le_refl _) (World.heap_new _ _ _ rfl)) w.heap.size A xs.length c (xs.map (Value.int .u8)) rfl (HR.out.alloc (Nat.le_refl _) _) ?c1 ?c2 ?c3 ?c4 ?_))
    case c1 => intro v hv; simp at hv; obtain ⟨x, _, rfl⟩ := hv; rfl
    case c2 => unfold maxLen; omega
    case c3 => omega
    case c4 => simp
    intro v' w1 hown' hgrow hnil
    obtain ⟨g, cap, rfl, hg⟩ := own_some hown' (by intro h; simp [h, Value.ownBlock] at hnil)
    have hbe : Below w.heap.size w w1 := ((Below.refl _ _).alloc (Nat.le_refl _) _).grown hgrow (by simp) (by intro k hk; simp [Value.ownBlock] at hk; omega)
    obtain ⟨X, d, rfl⟩ := Below.ext_ hbe
    have hown := hown'
    clear hown' hgrow hnil hbe
    go_wp2_with (first | (go_at_call 36; refine (l1In_any _ _ _ _).mono ?_; rintro e w' ⟨rfl, rfl⟩))
    go_ret
    exact ⟨g, cap, X, d, rfl, rfl, hg, hown⟩
  · have hn2 := inR_true hn
    obtain ⟨m0, rfl⟩ := Int.eq_ofNat_of_zero_le hn2.1
    have hu : uvar (m0 : Int) = uv 6 m0 := by simp [uvar, hn]
    have HU := Lib.hid hu
    clear hu
    have hm0 : m0 ≤ 1000000000000 := by omega
    clear hn2
    go_enter Try.func55, Try.ntmps55
    go_wp2_with (first | (at_builtin; refine wpList_append_any _ rfl _ _ 32 rfl w.heap.size 5 i0 (.int .u8 0) 1 1 Try.underlying32 hi hz0 hz1 hz2 rfl (by decide) (.slice (some ⟨w.heap.size, 0, none⟩) 0 0) 0 [] rfl (own_new (Nat.le_refl _) (World.heap_new _ _ _ rfl)) w.heap.size A xs.length c (xs.map (Value.int .u8)) rfl (HR.out.alloc (Nat.le_refl _) _) ?c1 ?c2 ?c3 ?c4 ?_))
    case c1 => intro v hv; simp at hv; obtain ⟨x, _, rfl⟩ := hv; rfl
    case c2 => unfold maxLen; omega
    case c3 => omega
    case c4 => simp
    intro v' w1 hown' hgrow hnil
    obtain ⟨g, cap, rfl, hg⟩ := own_some hown' (by intro h; simp [h, Value.ownBlock] at hnil)
    have hbe : Below w.heap.size w w1 := ((Below.refl _ _).alloc (Nat.le_refl _) _).grown hgrow (by simp) (by intro k hk; simp [Value.ownBlock] at hk; omega)
    obtain ⟨X, d, rfl⟩ := Below.ext_ hbe
    have hown := hown'
    clear hown' hgrow hnil hbe
    go_wp2_with (first | (go_at_call 36; refine (l1In_any _ _ _ _).mono ?_; rintro e w' ⟨rfl, rfl⟩))
    go_loopw [1, 5] (fun q v wr => ∃ (f m g cap : Nat) (X : List Obj) (d : Nat) (done : List Int), q = .int .i64 (m : Int) ∧ v = .slice (some ⟨g, 0, none⟩) (xs.length + done.length) cap ∧ wr = World.ext w X d ∧ 1 ≤ f ∧ f ≤ 6 ∧ done.length ≤ 6 - f ∧ m ≤ m0 ∧ w.heap.size ≤ g ∧
        Hid (m < 128 ^ f ∧ done ++ uv f m = uv 6 m0) ∧ wr.ownsRow w.heap.size 5 1 v (xs.length + done.length) ((xs ++ done).map (Value.int .u8)))
      (fun q _ _ => (intOf q).toNat)
    case atStart => exact ⟨6, m0, g, cap, X, d, [], rfl, by simp, rfl, by omega, by omega, by simp, Nat.le_refl _, hg, ⟨by omega, by simp⟩, by simpa using hown⟩
    case round =>
      clear hg hown
      obtain ⟨f, m, g, cap, X, d, done, rfl, rfl, rfl, hf1, hf6, hdl, hmm, hg, hfm, hown⟩ := hrel
      have hlen : xs.length + done.length ≤ 100000000010 := by omega
      by_cases hlt : m < 128
      · have hfin : done ++ [(m : Int)] = uv 6 m0 := by
          rw [← hfm.out.2]
          obtain ⟨f', rfl⟩ : ∃ f', f = f' + 1 := ⟨f - 1, by omega⟩
          rw [uv, if_pos hlt]
        have HFIN := Lib.hid hfin
        clear hfin
        go_wp2_with (first | (at_builtin; refine wpList_append_own _ rfl _ _ 32 rfl w.heap.size 5 i0 (.int .u8 0) 1 1 Try.underlying32 hi hz0 hz1 hz2 rfl (by decide) _ _ _ rfl (hown.alloc _) ⟨w.heap.size + X.length, 0, none⟩ 1 1 [.int .u8 (m : Int)] rfl rfl ?c1 ?c2 ?c3 ?c4 ?c5 ?_))
        case c1 =>
          intro j u hj
          match j, hj with
          | 0, hj => simp at hj; subst hj; simp [Addr.add, go_sem]
        case c2 => intro u hu; simp at hu; subst hu; rfl
        case c3 => unfold maxLen; simp; omega
        case c4 => simp <;> omega
        case c5 => simp <;> omega
        · intro v' w1 hown' hgrow hnil
          obtain ⟨g', cap', rfl, hg'⟩ := own_some hown' (by intro h; simp [h] at hnil)
          have hbe : Below w.heap.size w w1 := ((Below.ext (Below.refl _ _) (Nat.le_refl _) X d).alloc (by simp <;> omega) _).grown hgrow (by simp <;> omega) (own_ge hown)
          obtain ⟨X', d', rfl⟩ := Below.ext_ hbe
          clear hgrow hbe hown hnil
          go_wp2
          go_ret
          rw [HU.out, ← HFIN.out]
          refine ⟨g', cap', X', d', by simp [Nat.add_assoc], rfl, hg', ?_⟩
          simpa [Nat.add_assoc] using hown'
      · have hge : 128 ≤ m := by omega
        have e1 : (m : Int) % 128 + 128 ≤ 255 := by omega
        have e2 := and127 m (by omega)
        have e3 := or128 m
        go_wp2_with (first | (at_builtin; refine wpList_append_own _ rfl _ _ 32 rfl w.heap.size 5 i0 (.int .u8 0) 1 1 Try.underlying32 hi hz0 hz1 hz2 rfl (by decide) _ _ _ rfl (hown.alloc _) ⟨w.heap.size + X.length, 0, none⟩ 1 1 [.int .u8 ((m : Int) % 128 + 128)] rfl rfl ?e1 ?e2 ?e3 ?e4 ?e5 ?_))
        case e1 =>
          intro j u hj
          match j, hj with
          | 0, hj => simp at hj; subst hj; simp [Addr.add, go_sem]
        case e2 => intro u hu; simp at hu; subst hu; rfl
        case e3 => unfold maxLen; simp; omega
        case e4 => simp <;> omega
        case e5 => simp <;> omega
        · intro v' w1 hown' hgrow hnil
          obtain ⟨g', cap', rfl, hg'⟩ := own_some hown' (by intro h; simp [h] at hnil)
          have hbe : Below w.heap.size w w1 := ((Below.ext (Below.refl _ _) (Nat.le_refl _) X d).alloc (by simp <;> omega) _).grown hgrow (by simp <;> omega) (own_ge hown)
          obtain ⟨X', d', rfl⟩ := Below.ext_ hbe
          clear hgrow hbe hown hnil
          go_wp2
          have h0 : f ≠ 1 := by rintro rfl; have := hfm.out.1; omega
          obtain ⟨f', rfl⟩ : ∃ f', f = f' + 1 := ⟨f - 1, by omega⟩
          refine ⟨⟨f', m / 128, g', cap', X', d', done ++ [(m : Int) % 128 + 128], by go_num, by simp [Nat.add_assoc], rfl, by omega, by omega, by simp; omega, by omega, hg', ⟨?_, ?_⟩, by simpa [Nat.add_assoc] using hown'⟩, by simp [intOf]; omega⟩
          · have := hfm.out.1
            rw [Nat.pow_succ] at this
            exact Nat.div_lt_of_lt_mul (by rw [Nat.mul_comm]; exact this)
          · have := hfm.out.2
            rw [uv, if_neg hlt] at this
            rw [← this]; simp

end Go.Proofs.Ytifakpjchmalnaa
