/- Drawn rate states: any state. -/
import Derived.Test.YtkjkhlncdopndaaCur
import Derived.Test.YtkjkhlncdopndaaLawM
import Derived.Test.YtkjkhlncdopndaaRateD
namespace Go.Proofs.Ytkjkhlncdopndaa
open Go.RowKit
set_option linter.unusedVariables false
set_option linter.unusedSimpArgs false

theorem Drew.below {w0 w w' : World} {g n cap : Nat} {A : Option Addr} (h : Drew w g A n cap w') (hl : g < w.heap.size) (hb : Below w0.heap.size w0 w) (hg : w0.heap.size ≤ g) : Below w0.heap.size w0 w' := by
  obtain ⟨i, h, X, d, rfl, h0, h1⟩ := h
  have h2 : Below w0.heap.size w (World.put w g (curO A n cap i h)) := (put_chg w g _).below hb.size (fun k hk => by omega)
  exact Below.ext (hb.trans h2) (by have := hb.size; simpa using this) X d
theorem code_below {u : Bool} {w w' : World} {A : Option Addr} {xs : List Int} (hx : Rw u .u8 w (fun b => b < w.heap.size) A xs) (hb : Below w.heap.size w w') : Rw u .u8 w' (fun b => b < w'.heap.size) A xs :=
  (hx.below hb).wider (fun k hk => by have := hb.size; omega)

theorem own_block {w w' : World} {base e size n cap : Nat} {go : Nat} {xs : List Value} (h : w.ownsRow base e size (.slice (some ⟨go, 0, none⟩) n cap) n xs) (hb : w'.heap[go]? = w.heap[go]?) : w'.ownsRow base e size (.slice (some ⟨go, 0, none⟩) n cap) n xs := by
  refine ⟨h.1, h.2.imp id ?_⟩
  rintro ⟨g', cap', cur, hv, h1, h2, h3⟩
  have hg : go = g' := by injection hv with hA; injection hA with hA; injection hA
  subst hg
  exact ⟨go, cap', cur, hv, h1, hb.trans h2, h3⟩
theorem Drew.block {w w' : World} {g n cap : Nat} {A : Option Addr} (h : Drew w g A n cap w') (k : Nat) (hk : k < w.heap.size) (hg : k ≠ g) : w'.heap[k]? = w.heap[k]? := by
  obtain ⟨i, h, X, d, rfl, h0, h1⟩ := h
  rw [World.heap_ext _ _ _ _ (by simpa using hk), World.heap_put_ne _ _ _ _ hg]
theorem Drew.size {w w' : World} {g n cap : Nat} {A : Option Addr} (h : Drew w g A n cap w') : w.heap.size ≤ w'.heap.size := by
  obtain ⟨i, h, X, d, rfl, h0, h1⟩ := h
  simp
theorem Drew.of_grown {w w1 w2 : World} {g n cap : Nat} {A : Option Addr} (hc : Cuu w g A n cap) (hb : Below w.heap.size w w1) (h : Drew w1 g A n cap w2) : Drew w g A n cap w2 := by
  have h1 := hc.drew_below hb
  exact Drew.trans hc.lt h1 h
theorem Drew.and_below {w w1 w2 : World} {g n cap : Nat} {A : Option Addr} (hc : Cuu w g A n cap) (h : Drew w g A n cap w1) (hb : Below w1.heap.size w1 w2) : Drew w g A n cap w2 :=
  Drew.trans hc.lt h ((hc.next h).drew_below hb)

theorem Drew.app {w w2 w3 : World} {g n cap : Nat} {A : Option Addr} {o : Obj} {row : Option Nat} (h : Drew w g A n cap w2) (hg : (w2.alloc o).grownBy w3 row) (hr : ∀ k, row = some k → w.heap.size ≤ k) : Drew w g A n cap w3 := by
  obtain ⟨i', h', X, d, rfl, a0, a1⟩ := h
  have hbb : Below (World.put w g (curO A n cap i' h')).heap.size (World.put w g (curO A n cap i' h')) w3 :=
    ((Below.ext (Below.refl _ _) (Nat.le_refl _) X d).alloc (by simp) _).grown hg (by simp; omega) (by intro k hk; have := hr k hk; simpa using this)
  obtain ⟨X', d', e'⟩ := Below.ext_ hbb
  exact ⟨i', h', X', d', e', a0, a1⟩
theorem bools_of_own {w : World} {base go c : Nat} {bs : List Bool} (h : w.ownsRow base 4 1 (.slice (some ⟨go, 0, none⟩) bs.length c) bs.length (bs.map Value.bool)) : RwF Value.bool false w (fun _ => True) (some ⟨go, 0, none⟩) bs := by
  intro k hk
  have hl := own_lt h
  refine ⟨go, 0, rfl, trivial, hl, ?_, fun h => by cases h⟩
  rw [Nat.zero_add, h.cellAt k (by omega), List.getElem?_map, List.getElem?_eq_getElem hk]
  rfl
def SomeBs (e : Ending) (w' : World) : Prop := ∃ go c bs, e = .returned (.slice (some ⟨go, 0, none⟩) bs.length c) ∧ bs.length ≤ 60 ∧ RwF Value.bool false w' (fun _ => True) (some ⟨go, 0, none⟩) bs
set_option maxRecDepth 8000 in
set_option maxHeartbeats 2000000 in
theorem outcomes_any (g : Nat) (A : Option Addr) (n cap : Nat) (w : World) (hcu : Cuu w g A n cap) :
    Calls Try.prog 52 #[.pointer (some ⟨g, 0, none⟩)] w fun e w' => SomeBs e w' ∧ Drew w g A n cap w' := by
  obtain ⟨i0, hi, hz0, hz1, hz2⟩ := info_parts infoBoolS
  have HC := Lib.hid hcu
  clear hcu
  go_enter Try.func52, Try.ntmps52
  go_wp2_with fail
  refine (intL4 (A := A) (n := n) (cap := cap) (by simp) (HC.out.alloc _)).mono ?_
  rintro e w1 ⟨x, rfl, hxm, hd⟩
  have hx : 0 ≤ x ∧ x ≤ 60 := by simp at hxm; omega
  obtain ⟨hx0, hx1⟩ := hx
  clear hxm
  have HO : Hid (w1.ownsRow w.heap.size 4 1 (.slice (some ⟨w.heap.size, 0, none⟩) 0 0) 0 (([] : List Bool).map Value.bool)) := Lib.hid (own_block ((own_new (w := w.alloc (.cells #[] 4)) (Nat.le_refl _) (World.heap_new _ _ _ rfl)).alloc _) (hd.block w.heap.size (by simp; omega) (by have := HC.out.lt; omega)))
  have HD : Hid (Drew w g A n cap w1) := Lib.hid (Drew.of_grown HC.out (((Below.refl _ _).alloc (Nat.le_refl _) _).alloc (by simp) _) hd)
  clear hd
  go_wp2
  go_loopw [3, 4] (fun v p wr => ∃ (y : Int) (bs : List Bool) (go c : Nat), p = .int .i64 y ∧ 0 ≤ y ∧ (bs.length : Int) + y ≤ 60 ∧ v = .slice (some ⟨go, 0, none⟩) bs.length c ∧ w.heap.size ≤ go ∧ Hid (Drew w g A n cap wr) ∧ Hid (wr.ownsRow w.heap.size 4 1 (.slice (some ⟨go, 0, none⟩) bs.length c) bs.length (bs.map Value.bool))) (fun _ p _ => (intOf p).toNat)
  case atStart => exact ⟨x, [], w.heap.size, 0, rfl, hx0, by simpa using hx1, rfl, Nat.le_refl _, HD, HO⟩
  case round =>
    clear HO HD
    obtain ⟨y, bs, go, c, rfl, hy0, hy1, rfl, hgo, HD, HO⟩ := hrel
    by_cases hy : 0 < y
    · go_wp2_with fail
      refine (onceC g A n cap _ _ (by omega) (HC.out.next HD.out)).mono ?_
      rintro e w2 ⟨q, rfl, hd⟩
      have hgl := own_lt HO.out
      have hown := own_block HO.out (hd.block go hgl (by have := HC.out.lt; omega))
      have HD2 : Hid (Drew w g A n cap w2) := Lib.hid (Drew.trans HC.out.lt HD.out hd)
      have hs2 := HD2.out.size
      clear hd
      go_wp2_with (first | (at_builtin; refine wpList_append_own _ rfl _ _ 41 rfl w.heap.size 4 i0 (.bool false) 1 1 Try.underlying41 hi hz0 hz1 hz2 rfl (by decide) _ _ _ rfl (hown.alloc _) ⟨w2.heap.size, 0, none⟩ 1 1 [.bool (!q)] rfl rfl ?f1 ?f2 ?f3 ?f4 ?f5 ?_))
      case f1 =>
        intro j u hj
        match j, hj with
        | 0, hj => simp at hj; subst hj; simp [Addr.add, go_sem]
      case f2 => intro u hu; simp at hu; subst hu; rfl
      case f3 => unfold maxLen; omega
      case f4 => omega
      case f5 => simp; omega
      · intro v' w3 hown' hgrow hnil
        obtain ⟨go', c', rfl, hgo'⟩ := own_some hown' (by intro h; simp [h, Value.ownBlock] at hnil)
        have HD3 : Hid (Drew w g A n cap w3) := Lib.hid (HD2.out.app hgrow (own_ge hown))
        have HO3 : Hid (w3.ownsRow w.heap.size 4 1 (.slice (some ⟨go', 0, none⟩) (bs ++ [!q]).length c') (bs ++ [!q]).length ((bs ++ [!q]).map Value.bool)) := Lib.hid (by simpa using hown')
        clear hown hown' hgrow hnil HO HD
        go_wp2
        go_roundw
        case rel => exact ⟨y - 1, bs ++ [!q], go', c', rfl, by omega, by simp; omega, by simp, hgo', HD3, HO3⟩
        case measure => simp [intOf]; omega
    · go_wp2
      go_ret
      exact ⟨⟨go, c, bs, rfl, by omega, bools_of_own HO.out⟩, HD.out⟩

end Go.Proofs.Ytkjkhlncdopndaa
