/- DelimiterBytes of the program and of the reference. -/
import Derived.Test.YtgplllomchbkdaaCrc
import Derived.Test.YtgplllomchbkdaaCopy
namespace Go.Proofs.Ytgplllomchbkdaa
open Go.RowKit
set_option linter.unusedVariables false
set_option linter.unusedSimpArgs false

def dlm (n : Int) : List Int := if inR n 0 200 then [n, 0, (crcV [n, 0] : Int) % 256, 78] else []
theorem dlm_in {n : Int} (h : inR n 0 200 = true) : dlm n = [n, 0, (crcV [n, 0] : Int) % 256, 78] := by rw [dlm, if_pos h]
theorem dlm_out {n : Int} (h : inR n 0 200 = false) : dlm n = [] := by rw [dlm, if_neg (by rw [h]; decide)]
theorem dlm_len (n : Int) : (dlm n).length ≤ 4 := by unfold dlm; split <;> simp
theorem dlm_ub (n : Int) : ∀ y ∈ dlm n, 0 ≤ y ∧ y ≤ 255 := by
  unfold dlm
  split
  · rename_i h
    have := inR_true h
    intro y hy
    simp only [List.mem_cons, List.not_mem_nil, or_false] at hy
    rcases hy with rfl | rfl | rfl | rfl <;> omega
  · intro y hy; cases hy
/- a block that was written out at once -/
theorem rw_lit {u : Bool} {W : World} {k : Nat} {K : IntKind} {t : TypeId} (xs : List Int) (h : W.heap[k]? = some (.cells (xs.map (Value.int K)).toArray t (0, 0))) : Rw u K W (fun _ => True) (some ⟨k, 0, none⟩) xs := by
  intro j hj
  have hk : k < W.heap.size := by
    rcases Nat.lt_or_ge k W.heap.size with h1 | h1
    · exact h1
    · rw [Array.getElem?_eq_none h1] at h; cases h
  refine ⟨k, 0, rfl, trivial, hk, ?_, fun _ => by simp [World.frozen?, h]⟩
  simp [World.cell?, h, List.getElem?_eq_getElem hj]
theorem own_lit {W : World} {base k : Nat} {e : TypeId} {vs : List Value} (hb : base ≤ k) (h : W.heap[k]? = some (.cells vs.toArray e (0, 0))) (hl : vs.length ≤ 1000000000000) : W.ownsRow base e 1 (.slice (some ⟨k, 0, none⟩) vs.length vs.length) vs.length vs :=
  ⟨by simp, .inr ⟨k, vs.length, _, rfl, hb, h, Nat.le_refl _, by unfold maxLen; omega, by simp, by simp⟩⟩
theorem newB_lit {w w' : World} {k : Nat} (xs : List Int) (hb : Below w.heap.size w w') (hk : w.heap.size ≤ k) (h : w'.heap[k]? = some (.cells (xs.map (Value.int .u8)).toArray 5 (0, 0))) (hl : xs.length ≤ 1000000000000) :
    NewB w (.returned (.slice (some ⟨k, 0, none⟩) xs.length xs.length)) w' xs := by
  obtain ⟨X, d, rfl⟩ := Below.ext_ hb
  have := own_lit (W := World.ext w X d) (base := w.heap.size) (e := 5) (vs := xs.map (Value.int .u8)) hk h (by simpa using hl)
  simp only [List.length_map] at this
  exact ⟨k, xs.length, X, d, rfl, rfl, hk, this⟩
theorem newB_nil {w w' : World} {k : Nat} (hb : Below w.heap.size w w') (hk : w.heap.size ≤ k) (h : w'.heap[k]? = some (.cells #[] 5 (0, 0))) : NewB w (.returned (.slice (some ⟨k, 0, none⟩) 0 0)) w' [] := by
  obtain ⟨X, d, rfl⟩ := Below.ext_ hb
  exact ⟨k, 0, X, d, rfl, rfl, hk, own_new hk h⟩
theorem newB_of {w w1 w' : World} {v : Value} {g cap : Nat} {xs : List Int} (hb : Below w.heap.size w w') (hg : w.heap.size ≤ g) (hv : v = .slice (some ⟨g, 0, none⟩) xs.length cap)
    (h : w'.ownsRow w1.heap.size 5 1 (.slice (some ⟨g, 0, none⟩) xs.length cap) xs.length (xs.map (Value.int .u8))) (h1 : w.heap.size ≤ w1.heap.size) : NewB w (.returned v) w' xs := by
  obtain ⟨X, d, rfl⟩ := Below.ext_ hb
  exact ⟨g, cap, X, d, by rw [hv], rfl, hg, own_lower h h1⟩
theorem implCrc2 (a b : Int) (k : Nat) (t : TypeId) (w : World) (h : w.heap[k]? = some (.cells #[.int .u8 a, .int .u8 b] t (0, 0))) (hb : ∀ x ∈ [a, b], 0 ≤ x ∧ x ≤ 255) :
    Calls Try.prog 42 #[.slice (some ⟨k, 0, none⟩) 2 2] w fun e w' => e = .returned (.int .i64 (crcV [a, b] : Nat)) ∧ w = w' :=
  implCrc_any _ _ [a, b] w (rw_lit (u := false) [a, b] h) (by simp) hb
theorem specCrc2 (a b : Int) (k : Nat) (t : TypeId) (w : World) (h : w.heap[k]? = some (.cells #[.int .u8 a, .int .u8 b] t (0, 0))) (hb : ∀ x ∈ [a, b], 0 ≤ x ∧ x ≤ 255) :
    Calls Try.prog 44 #[.slice (some ⟨k, 0, none⟩) 2 2] w fun e w' => e = .returned (.int .i64 (crcV [a, b] : Nat)) ∧ w = w' :=
  specCrc_any _ _ [a, b] w (rw_lit (u := false) [a, b] h) (by simp) hb

set_option maxHeartbeats 2000000 in
theorem implDlm_any (n : Int) (w : World) : Calls Try.prog 28 #[.int .i64 n] w fun e w' => NewB w e w' (dlm n) := by
  cases h : inR n 0 200
  · rw [dlm_out h]
    go_enter Try.func28, Try.ntmps28
    go_wp2_with (first | (go_at_call 34; refine (inRange_any _ _ _ _).mono ?_; rintro e w' ⟨rfl, rfl⟩))
    go_ret
    exact newB_nil (by repeat (first | (with_reducible exact Below.refl _ _) | (with_reducible refine Below.ext ?_ (by go_size) _ _) | (with_reducible refine Below.alloc ?_ (by go_size) _) | (with_reducible refine Below.setCell ?_ (by go_size) _) | (with_reducible refine Below.drew ?_) | (with_reducible refine Below.drewN_ ?_ _))) (by simp) (World.heap_new _ _ _ rfl)
  · rw [dlm_in h]
    obtain ⟨h0, h1⟩ := inR_true h
    have hbb : ∀ x ∈ [n, 0], 0 ≤ x ∧ x ≤ 255 := by
      intro x hx
      simp only [List.mem_cons, List.not_mem_nil, or_false] at hx
      rcases hx with rfl | rfl <;> omega
    have HBB := Lib.hid hbb
    have hv := crcV_lt _ hbb
    have m1 : n % 256 = n := by omega
    have m2 : n / 256 = 0 := by omega
    have m3 : IntKind.u8.wrap n = n := by rw [IntKind.wrap_u8]; omega
    have m4 : IntKind.u8.wrap ((crcV [n, 0] : Int) % 256) = (crcV [n, 0] : Int) % 256 := by rw [IntKind.wrap_u8]; omega
    have m5 : IntKind.u8.wrap 0 = 0 := by decide
    generalize hE : crcV [n, 0] = v at *
    have HE := Lib.hid hE
    clear hbb hE
    go_enter Try.func28, Try.ntmps28
    go_wp2_with (first | (go_at_call 34; refine (inRange_any _ _ _ _).mono ?_; rintro e w' ⟨rfl, rfl⟩) | (go_at_call 42; refine (implCrc2 n 0 _ 5 _ (World.heap_new _ _ _ (by simp)) HBB.out).mono ?_; rw [HE.out]; rintro e w' ⟨rfl, rfl⟩))
    go_ret
    exact newB_lit [n, 0, (v : Int) % 256, 78] (by repeat (first | (with_reducible exact Below.refl _ _) | (with_reducible refine Below.ext ?_ (by go_size) _ _) | (with_reducible refine Below.alloc ?_ (by go_size) _) | (with_reducible refine Below.setCell ?_ (by go_size) _) | (with_reducible refine Below.drew ?_) | (with_reducible refine Below.drewN_ ?_ _))) (by simp; try omega) (World.heap_new _ _ _ (by simp)) (by simp)

set_option maxHeartbeats 2000000 in
theorem specDlm_any (n : Int) (w : World) : Calls Try.prog 33 #[.int .i64 n] w fun e w' => NewB w e w' (dlm n) := by
  cases h : inR n 0 200
  · rw [dlm_out h]
    go_enter Try.func33, Try.ntmps33
    go_wp2_with (first | (go_at_call 31; refine (l1In_any _ _ _ _).mono ?_; rintro e w' ⟨rfl, rfl⟩))
    go_ret
    exact newB_nil (by repeat (first | (with_reducible exact Below.refl _ _) | (with_reducible refine Below.ext ?_ (by go_size) _ _) | (with_reducible refine Below.alloc ?_ (by go_size) _) | (with_reducible refine Below.setCell ?_ (by go_size) _) | (with_reducible refine Below.drew ?_) | (with_reducible refine Below.drewN_ ?_ _))) (by simp) (World.heap_new _ _ _ rfl)
  · rw [dlm_in h]
    obtain ⟨h0, h1⟩ := inR_true h
    obtain ⟨i0, hi, hz0, hz1, hz2⟩ := info_parts infoU8
    have hbb : ∀ x ∈ [n, 0], 0 ≤ x ∧ x ≤ 255 := by
      intro x hx
      simp only [List.mem_cons, List.not_mem_nil, or_false] at hx
      rcases hx with rfl | rfl <;> omega
    have HBB := Lib.hid hbb
    have hv := crcV_lt _ hbb
    have m2 : n / 256 = 0 := by omega
    have m2b : n / 2 ^ 8 = 0 := by omega
    have m3 : IntKind.u8.wrap n = n := by rw [IntKind.wrap_u8]; omega
    have m4 : IntKind.u8.wrap (crcV [n, 0] : Int) = (crcV [n, 0] : Int) % 256 := by rw [IntKind.wrap_u8]
    have m5 : IntKind.u8.wrap 0 = 0 := by decide
    generalize hE : crcV [n, 0] = v at *
    have HE := Lib.hid hE
    clear hbb hE
    have hown : ((w.alloc (.cells #[.int .u8 n, .int .u8 0] 5)).alloc (.cells #[.int .u8 ((v : Int) % 256), .int .u8 78] 5)).ownsRow w.heap.size 5 1 (.slice (some ⟨w.heap.size, 0, none⟩) 2 2) 2 [.int .u8 n, .int .u8 0] :=
      (own_lit (vs := [.int .u8 n, .int .u8 0]) (Nat.le_refl _) (World.heap_new _ _ _ rfl) (by simp)).alloc _
    have HO := Lib.hid hown
    clear hown
    go_enter Try.func33, Try.ntmps33
    go_wp2_with (first | (go_at_call 31; refine (l1In_any _ _ _ _).mono ?_; rintro e w' ⟨rfl, rfl⟩) | (go_at_call 44; refine (specCrc2 n 0 _ 5 _ (World.heap_new _ _ _ (by simp)) HBB.out).mono ?_; rw [HE.out]; rintro e w' ⟨rfl, rfl⟩) | (at_builtin; refine wpList_append_own _ rfl _ _ 22 rfl w.heap.size 5 i0 (.int .u8 0) 1 1 Try.underlying22 hi hz0 hz1 hz2 rfl (by decide) _ _ _ rfl HO.out ⟨w.heap.size + 1, 0, none⟩ 2 2 [.int .u8 ((v : Int) % 256), .int .u8 78] rfl rfl ?f1 ?f2 ?f3 ?f4 ?f5 ?_))
    case f1 =>
      intro j u hj
      match j, hj with
      | 0, hj => simp at hj; subst hj; simp [Addr.add, go_sem]
      | 1, hj => simp at hj; subst hj; simp [Addr.add, go_sem]
    case f2 => intro u hu; simp at hu; rcases hu with rfl | rfl <;> rfl
    case f3 => unfold maxLen; omega
    case f4 => omega
    case f5 => simp; try omega
    · intro v' w3 hown' hgrow hnil
      obtain ⟨go', c', rfl, hgo'⟩ := own_some hown' (by intro h; simp [h] at hnil)
      have hbl : Below w.heap.size w w3 := (((Below.refl _ _).alloc (Nat.le_refl _) _).alloc (by simp) _).grown hgrow (by simp; try omega) (by intro k hk; have := own_ge HO.out k hk; simpa using this)
      obtain ⟨X, d, rfl⟩ := Below.ext_ hbl
      have HO3 := Lib.hid hown'
      clear hown' hgrow hnil hbl HO
      go_wp2
      go_ret
      exact ⟨go', c', X, d, rfl, rfl, hgo', HO3.out⟩

end Go.Proofs.Ytgplllomchbkdaa
