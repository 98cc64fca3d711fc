/- Frames in new memory: copyFrames of the program, l26Frames of the reference. -/
import Derived.Test.YtbfbjkcmehalhaaKTl
import Derived.Test.YtbfbjkcmehalhaaOwS
import Derived.Test.YtbfbjkcmehalhaaOwN
import Derived.Test.YtbfbjkcmehalhaaCopy
namespace Go.Proofs.Ytbfbjkcmehalhaa
open Go.RowKit
set_option linter.unusedVariables false
set_option linter.unusedSimpArgs false

theorem ESS.mov {u : Bool} : Mov 1 (ESS u) := by
  rintro w w' F g o g' o' x ⟨A, c, h1, h2, h3⟩ hs hg hF
  have := hg 0 (by omega)
  exact ⟨A, c, this.1.trans h1, fun hu => ⟨this.2, (h2 hu).2⟩, Sl.local_ EB.local_ h3 hs hF⟩
theorem EK.mov {u : Bool} : Mov 4 (EK u) := by
  rintro w w' F g o g' o' x ⟨h1, h2, h3, h4, h5⟩ hs hg hF
  have e0 := hg 0 (by omega)
  have e1 := hg 1 (by omega)
  have e3 := hg 3 (by omega)
  refine ⟨e0.1.trans h1, e1.1.trans h2, e3.1.trans h3, fun hu => ⟨e0.2, e1.2, e3.2⟩, ESS.mov h5 hs (fun i hi => ?_) hF⟩
  obtain rfl : i = 0 := by omega
  exact hg 2 (by omega)
theorem Sl.mono {α : Type} {R R' : Rel α} {u : Bool} {sz : Nat} {w : World} {T : Nat → Prop} {A : Option Addr} {xs : List α} (h : Sl u sz R w T A xs) (hr : ∀ F g o x, R w F g o x → R' w F g o x) : Sl u sz R' w T A xs := by
  intro hn
  obtain ⟨g, o, F, hA, hg, hsep, he⟩ := h hn
  exact ⟨g, o, F, hA, hg, hsep, fun k hk => hr _ _ _ _ (he k hk)⟩
section
variable {α : Type} {R : Rel α} {u : Bool} {sz : Nat} {e : TypeId} {w w' : World} {T T' : Nat → Prop} {base g c : Nat} {A : Option Addr} {xs : List α}
theorem OwS.local_ (hL : Local sz R) (h : OwS u sz R e w T base A c xs) (hs : w.heap.size ≤ w'.heap.size) (hF : ∀ b, b < w.heap.size → T b → w'.heap[b]? = w.heap[b]?) (hA : ∀ a, A = some a → a.block < w.heap.size → w'.heap[a.block]? = w.heap[a.block]?) : OwS u sz R e w' T base A c xs := by
  obtain ⟨vs, F, h1, h2, h3, h4⟩ := h
  refine ⟨vs, F, OwS.row_keep h1 (fun g hg hlt => hA _ hg hlt), fun k b hb => ⟨(h2 k b hb).1, by have := (h2 k b hb).2.1; omega, (h2 k b hb).2.2⟩, h3, fun k hk => ?_⟩
  obtain ⟨g, hg, hr⟩ := h4 k hk
  have hlt : g < w.heap.size := by
    subst hg
    exact own_lt h1
  have hb := hA _ hg hlt
  exact ⟨g, hg, hL hr hs (fun i _ => ⟨World.cell?_of_block (a := ⟨g, k * sz + i, none⟩) hb, World.frozen?_of_block (a := ⟨g, k * sz + i, none⟩) hb⟩) (fun b hb' hf => hF b hb' (h2 k b hf).1)⟩
theorem OwS.widerT (h : OwS u sz R e w T base A c xs) (hT : ∀ b, T b → b < w.heap.size → T' b) : OwS u sz R e w T' base A c xs := by
  obtain ⟨vs, F, h1, h2, h3⟩ := h
  exact ⟨vs, F, h1, fun k b hb => ⟨hT b (h2 k b hb).1 (h2 k b hb).2.1, (h2 k b hb).2⟩, h3⟩
theorem OwS.slT (h : OwS u sz R e w T base A c xs) (hT : ∀ a, A = some a → T a.block) : Sl u sz R w T A xs := by
  obtain ⟨vs, F, h1, h2, h3, h4⟩ := h
  intro hn
  obtain ⟨g, hA, _⟩ := h4 0 (List.length_pos_iff.2 hn)
  subst hA
  refine ⟨g, 0, F, rfl, own_lt h1, ⟨hT _ rfl, fun k b hb => (h2 k b hb).1, fun hu => ⟨fun k hk => (h2 k g hk).2.2 _ rfl rfl, h3 hu⟩⟩, fun k hk => ?_⟩
  obtain ⟨g', hg, hr⟩ := h4 k hk
  injection hg with hg
  injection hg with hg
  subst hg
  rw [Nat.zero_add]
  exact hr
theorem OwS.cap (h : OwS u sz R e w T base (some ⟨g, 0, none⟩) c xs) : xs.length ≤ c := by
  obtain ⟨vs, F, h1, _⟩ := h
  rcases h1.2 with ⟨h0, _⟩ | ⟨g', cap', cur, hv, _, _, h3, _⟩
  · cases h0
  · injection hv with _ _ hc; omega
theorem OwS.of_sl {vs : List Value} (h1 : w.ownsRow base e sz (.slice (some ⟨g, 0, none⟩) xs.length c) xs.length vs) (h : Sl true sz R w T (some ⟨g, 0, none⟩) xs) (hT : ∀ b, T b → b < w.heap.size) : OwS true sz R e w T base (some ⟨g, 0, none⟩) c xs := by
  by_cases hn : xs = []
  · subst hn
    exact ⟨vs, fun _ _ => False, h1, fun _ _ h => h.elim, fun _ _ _ _ h => h.elim, fun k hk => absurd hk (by simp)⟩
  · obtain ⟨g', o', F, hA, hg, hsep, he⟩ := h hn
    injection hA with hA
    injection hA with e1 e2
    subst e1 e2
    refine ⟨vs, F, h1, fun k b hb => ⟨hsep.2.1 k b hb, hT b (hsep.2.1 k b hb), fun a ha => ?_⟩, fun _ => (hsep.2.2 rfl).2, fun k hk => ⟨g, rfl, ?_⟩⟩
    · injection ha with ha
      subst ha
      intro hbe
      simp only at hbe
      subst hbe
      exact (hsep.2.2 rfl).1 k hb
    · have := he k hk
      rwa [Nat.zero_add] at this
end
/- kept traffic whose row of frames is the call's own, so that a frame may be appended -/
def EKO : Rel KT := fun w F g o x => w.cell? ⟨g, o, none⟩ = some (.int .i64 x.st) ∧ w.cell? ⟨g, o + 1, none⟩ = some (.bool x.az) ∧ w.cell? ⟨g, o + 3, none⟩ = some (.int .i64 x.lo) ∧
  w.frozen? ⟨g, o, none⟩ = false ∧ w.frozen? ⟨g, o + 1, none⟩ = false ∧ w.frozen? ⟨g, o + 3, none⟩ = false ∧ w.frozen? ⟨g, o + 2, none⟩ = false ∧
  ∃ gr c, w.cell? ⟨g, o + 2, none⟩ = some (.slice (some ⟨gr, 0, none⟩) x.fr.length c) ∧ F gr ∧ OwS true 1 (EB true) 38 w F 0 (some ⟨gr, 0, none⟩) c x.fr
theorem EKO.mov : Mov 4 EKO := by
  rintro w w' F g o g' o' x ⟨h1, h2, h3, f1, f2, f3, f4, gr, c, h5, h6, h7⟩ hs hg hF
  have e0 := hg 0 (by omega)
  have e1 := hg 1 (by omega)
  have e2 := hg 2 (by omega)
  have e3 := hg 3 (by omega)
  refine ⟨e0.1.trans h1, e1.1.trans h2, e3.1.trans h3, e0.2, e1.2, e3.2, e2.2, gr, c, e2.1.trans h5, h6, OwS.local_ EB.local_ h7 hs hF (fun a ha hlt => ?_)⟩
  injection ha with ha
  subst ha
  exact hF _ hlt h6
theorem EKO.local_ : Local 4 EKO := by
  rintro w w' F g o x ⟨h1, h2, h3, f1, f2, f3, f4, gr, c, h5, h6, h7⟩ hs hg hF
  have e0 := hg 0 (by omega)
  have e1 := hg 1 (by omega)
  have e2 := hg 2 (by omega)
  have e3 := hg 3 (by omega)
  refine ⟨e0.1.trans h1, e1.1.trans h2, e3.1.trans h3, e0.2.trans f1, e1.2.trans f2, e3.2.trans f3, e2.2.trans f4, gr, c, e2.1.trans h5, h6, OwS.local_ EB.local_ h7 hs hF (fun a ha hlt => ?_)⟩
  injection ha with ha
  subst ha
  exact hF _ hlt h6
theorem EKO.framed : Framed EKO := EKO.local_.framed
theorem EKO.ek {w : World} {F : Nat → Prop} {g o : Nat} {x : KT} (h : EKO w F g o x) : EK true w F g o x := by
  obtain ⟨h1, h2, h3, f1, f2, f3, f4, gr, c, h5, h6, h7⟩ := h
  exact ⟨h1, h2, h3, fun _ => ⟨f1, f2, f3⟩, _, _, h5, fun _ => ⟨f4, h7.cap⟩, h7.slT (fun a ha => by injection ha with ha; subst ha; exact h6)⟩
theorem SlO.ek {w : World} {T : Nat → Prop} {A : Option Addr} {xs : List KT} (h : Sl true 4 EKO w T A xs) : Sl true 4 (EK true) w T A xs := h.mono fun _ _ _ _ h => h.ek
def CpSS (w : World) (xs : List (List Int)) (e : Ending) (w' : World) : Prop := ∃ g c, e = .returned (.slice (some ⟨g, 0, none⟩) xs.length c) ∧ Below w.heap.size w w' ∧ xs.length ≤ c ∧ w.heap.size ≤ g ∧ g < w'.heap.size ∧ Sl true 1 (EB true) w' (fun b => w.heap.size ≤ b ∧ b < w'.heap.size) (some ⟨g, 0, none⟩) xs ∧ OwS true 1 (EB true) 38 w' (fun b => w.heap.size ≤ b ∧ b < w'.heap.size) 0 (some ⟨g, 0, none⟩) c xs
set_option maxHeartbeats 1000000 in
theorem copyFrames_any {T : Nat → Prop} (A : Option Addr) (c : Nat) (xs : List (List Int)) (w : World) (hx : Sl false 1 (EB false) w T A xs) (hm : xs.length ≤ 1000000000) (hlx : ∀ x ∈ xs, x.length ≤ 1000000000) :
    Calls Try.prog 43 #[.slice A xs.length c] w fun e w' => CpSS w xs e w' := by
  obtain ⟨i0, hi, hz0, hz1, hz2⟩ := info_parts infoByteSS
  have HX := Lib.hid hx
  have HLX := Lib.hid hlx
  clear hx hlx
  have hmk : ∀ W : World, (Instr.makeSlice 49 (.int .i64 (xs.length : Int)) (.int .i64 (xs.length : Int))).run Try.prog W = .ok (.slice (some ⟨W.heap.size, 0, none⟩) xs.length xs.length) (W.alloc (.cells (madeCells #[.slice none 0 0] (xs.length * 1)) 38)) := by
    intro W
    have h1 := run_make (P := Try.prog) W 49 38 i0 (.slice none 0 0) Try.underlying49 hi hz0 .i64 .i64 (xs.length : Int) (xs.length : Int) (by omega) (by omega) (by rw [hz2]; omega) (by omega)
    rw [hz1] at h1
    simpa [Value.cells] using h1
  have HMS := Lib.hid (made_size (.slice none 0 0) xs.length)
  generalize madeCells #[.slice none 0 0] (xs.length * 1) = cur0 at *
  go_enter Try.func43, Try.ntmps43
  go_wp2
  go_loopw [11] (fun p wr => ∃ (i : Nat) (cur : Array Value), i ≤ xs.length ∧ p = .int .i64 (i : Int) ∧ Hid (Below w.heap.size w wr) ∧ Hid (wr.heap[w.heap.size]? = some (.cells cur 38 (0, 0)) ∧ cur.size = xs.length) ∧ Hid (Sl true 1 (EB true) wr (fun b => w.heap.size ≤ b ∧ b < wr.heap.size) (some ⟨w.heap.size, 0, none⟩) (xs.take i)))
    (fun p _ => xs.length - (intOf p).toNat)
  case atStart => exact ⟨0, cur0, Nat.zero_le _, rfl, Lib.hid ((Below.refl _ _).alloc (Nat.le_refl _) _), Lib.hid ⟨World.heap_new _ _ _ rfl, HMS.out⟩, Lib.hid (by rw [List.take_zero]; exact Sl.nil)⟩
  case round =>
    obtain ⟨i, cur, hi, rfl, HB, HC, HS⟩ := hrel
    have hgs : w.heap.size < wr.heap.size := by
      rcases Nat.lt_or_ge w.heap.size wr.heap.size with h | h
      · exact h
      · have := HC.out.1; rw [Array.getElem?_eq_none h] at this; cases this
    by_cases hlt : i < xs.length
    · obtain ⟨g, o, F, rfl, hg, ⟨B1, d1, hc1, _, hr1⟩, _, _⟩ := HX.out.at_ i hlt
      rw [Nat.mul_one] at hc1
      have hc2 : wr.cell? ⟨g, o + i, none⟩ = some (.slice B1 xs[i].length d1) := (HB.out.cell (p := ⟨g, o + i, none⟩) hg).trans hc1
      have R1 := Lib.hid (hr1.below HB.out)
      have hxl := HLX.out _ (List.getElem_mem hlt)
      have htk : xs.take (i + 1) = xs.take i ++ [xs[i]] := by rw [List.take_add_one, List.getElem?_eq_getElem hlt]; rfl
      have HTK := Lib.hid htk
      have hlt2 : (i : Int) < (xs.length : Int) := by omega
      obtain ⟨u, hu⟩ : ∃ u, cur[i]? = some u := ⟨_, Array.getElem?_eq_getElem (by rw [HC.out.2]; exact hlt)⟩
      have hcell : wr.cell? ⟨w.heap.size, i, none⟩ = some u := by simp [World.cell?, HC.out.1, hu]
      have hfr : wr.frozen? ⟨w.heap.size, i, none⟩ = false := by simp [World.frozen?, HC.out.1]
      clear hr1 hc1 htk hu
      generalize xs[i] = x at *
      go_wp2_with fail
      refine (copyBytes_any B1 d1 x _ R1.out (by omega)).mono ?_
      rintro e w2 ⟨g3, c3, X, d, rfl, rfl, hg3, ho3⟩
      have HR2 := Lib.hid (Rw.of_own ho3)
      clear ho3
      go_wp2
      go_roundw
      case rel =>
        rw [← World.setCell_ext _ _ _ _ _ _ hgs]
        have hchg : Chg (fun b => b = w.heap.size) wr ((World.ext wr X d).setCell ⟨w.heap.size, i, none⟩ (.slice (some ⟨g3, 0, none⟩) x.length c3)) :=
          Chg.setCell_ (S := fun b => b = w.heap.size) (Chg.of_below (Below.ext (Below.refl _ _) (Nat.le_refl _) X d)) (p := ⟨w.heap.size, i, none⟩) rfl _
        refine ⟨i + 1, cur.setIfInBounds i (.slice (some ⟨g3, 0, none⟩) x.length c3), by omega, by go_num, Lib.hid ?_, Lib.hid ⟨?_, by simpa using HC.out.2⟩, Lib.hid ?_⟩
        · exact (Below.ext HB.out (by omega) X d).setCell (Nat.le_refl _) _
        · simp only [World.setCell, Array.getElem?_modify, if_true]
          rw [World.heap_ext _ _ _ _ hgs, HC.out.1]
          rfl
        · rw [HTK.out]
          have hlen : (xs.take i).length = i := by rw [List.length_take]; omega
          refine (Sl.snoc (Fn := fun b => wr.heap.size ≤ b ∧ b < wr.heap.size + X.length) (R := EB true) EB.local_ HS.out hgs ⟨Nat.le_refl _, hgs⟩ (fun b hb => hb.2) (fun b hb => by omega) hchg (fun j hj => ?_) ?_).wider ?_
          · rw [hlen, Nat.zero_add, Nat.mul_one] at hj
            refine ⟨?_, ?_⟩
            · rw [World.cell?_setCell_other _ _ _ _ (fun e => by injection e with _ e2; omega), World.cell?_ext _ _ _ _ _ hgs]
            · rw [World.frozen?_setCell, World.frozen?_ext _ _ _ _ _ hgs]
          · rw [hlen, Nat.zero_add, Nat.mul_one]
            have hr3 : Rw true .u8 (World.ext wr X d) (fun b => wr.heap.size ≤ b ∧ b < wr.heap.size + X.length) (some ⟨g3, 0, none⟩) x := (HR2.out.inW).wider (fun k hk => ⟨hk.1.1, by simpa using hk.2⟩)
            refine ⟨_, _, World.cell?_setCell_same _ _ _ (by rw [World.cell?_ext _ _ _ _ _ hgs]; exact hcell), fun _ => by rw [World.frozen?_setCell, World.frozen?_ext _ _ _ _ _ hgs]; exact hfr, hr3.frame (Chg.setCell_ (S := fun b => b = w.heap.size) (Chg.refl _ _) (p := ⟨w.heap.size, i, none⟩) rfl _) (fun k h1 h2 => by omega)⟩
          · intro b hb
            have hsz : ((World.ext wr X d).setCell ⟨w.heap.size, i, none⟩ (.slice (some ⟨g3, 0, none⟩) x.length c3)).heap.size = wr.heap.size + X.length := by simp [World.setCell]
            rw [hsz]
            rcases hb with hb | hb <;> omega
      case measure => simp [intOf]; omega
    · obtain rfl : i = xs.length := by omega
      have HS2 : Hid (Sl true 1 (EB true) wr (fun b => w.heap.size ≤ b ∧ b < wr.heap.size) (some ⟨w.heap.size, 0, none⟩) xs) := Lib.hid (by have := HS.out; rwa [List.take_length] at this)
      have hoS : OwS true 1 (EB true) 38 wr (fun b => w.heap.size ≤ b ∧ b < wr.heap.size) 0 (some ⟨w.heap.size, 0, none⟩) xs.length xs :=
        OwS.of_sl (vs := cur.toList) ⟨by simp [HC.out.2], .inr ⟨w.heap.size, xs.length, cur, rfl, Nat.zero_le _, HC.out.1, Nat.le_refl _, by unfold maxLen; omega, by simp [HC.out.2], by rw [Nat.mul_one, ← HC.out.2, ← Array.length_toList, List.take_length]⟩⟩ HS2.out (fun b hb => hb.2)
      have HOS := Lib.hid hoS
      clear hoS
      go_wp2
      go_ret
      exact ⟨_, _, rfl, HB.out, Nat.le_refl _, Nat.le_refl _, hgs, HS2.out, HOS.out⟩
set_option maxHeartbeats 1000000 in
theorem l26Frames_any {T : Nat → Prop} (A : Option Addr) (c : Nat) (xs : List (List Int)) (w : World) (hx : Sl false 1 (EB false) w T A xs) (hm : xs.length ≤ 1000000000) (hlx : ∀ x ∈ xs, x.length ≤ 1000000000) :
    Calls Try.prog 46 #[.slice A xs.length c] w fun e w' => CpSS w xs e w' := by
  obtain ⟨i0, hI0, hz0, hz1, hz2⟩ := info_parts infoByteSS
  obtain ⟨j0, hj, hy0, hy1, hy2⟩ := info_parts infoU8
  have HX := Lib.hid hx
  have HLX := Lib.hid hlx
  clear hx hlx
  go_enter Try.func46, Try.ntmps46
  go_wp2
  go_loopw [3, 4] (fun v p wr => ∃ (i g c : Nat) (q : List (List Int)), i ≤ xs.length ∧ p = .int .i64 (i : Int) ∧ v = .slice (some ⟨g, 0, none⟩) q.length c ∧ Hid (q = xs.take i) ∧ Hid (Below w.heap.size w wr) ∧ Hid (OwS true 1 (EB true) 38 wr (fun b => w.heap.size ≤ b) w.heap.size (some ⟨g, 0, none⟩) c q))
    (fun _ p _ => xs.length - (intOf p).toNat)
  case atStart => exact ⟨0, w.heap.size, 0, [], Nat.zero_le _, rfl, rfl, Lib.hid (by rw [List.take_zero]), Lib.hid ((Below.refl _ _).alloc (Nat.le_refl _) _), Lib.hid (OwS.new (Nat.le_refl _) (World.heap_new _ _ _ rfl))⟩
  case round =>
    obtain ⟨i, g, c, q, hi, rfl, rfl, HQ, HB, HO⟩ := hrel
    have hws := HB.out.size
    have HQL : Hid (q.length = i) := Lib.hid (by rw [HQ.out, List.length_take]; omega)
    have hqi : q.length ≤ 1000000000 := by have := HQL.out; omega
    by_cases hlt : i < xs.length
    · obtain ⟨g1, o1, F1, rfl, hg1, ⟨B1, d1, hc1, _, hr1⟩, _, _⟩ := HX.out.at_ i hlt
      rw [Nat.mul_one] at hc1
      have hc2 : wr.cell? ⟨g1, o1 + i, none⟩ = some (.slice B1 xs[i].length d1) := (HB.out.cell (p := ⟨g1, o1 + i, none⟩) hg1).trans hc1
      have R1 := Lib.hid (hr1.below HB.out)
      have hxl := HLX.out _ (List.getElem_mem hlt)
      have htk : xs.take (i + 1) = xs.take i ++ [xs[i]] := by rw [List.take_add_one, List.getElem?_eq_getElem hlt]; rfl
      have HTK := Lib.hid htk
      have hlt2 : (i : Int) < (xs.length : Int) := by omega
      have hg1w : g1 < wr.heap.size := by omega
      clear hr1 hc1 htk
      generalize xs[i] = x at *
      go_wp2_with (at_builtin; refine wpList_appR rfl (.tmp 13) (.tmp 17) 38 rfl 5 j0 (.int .u8 0) 1 Try.underlying38 hj hy0 hy1 hy2 rfl wr.heap.size _ _ _ rfl (OwR.new (f := Value.int .u8) (Nat.le_refl _) (World.heap_new _ _ _ rfl)) _ x _ (fun _ _ => rfl) rfl ((R1.out.below ((Below.refl _ _).alloc (Nat.le_refl _) _)).rwF) (by first | omega | (simp; done) | (simp; omega)) (by decide) (by first | omega | (simp; done) | (simp; omega)) ?_)
      intro g3 c3 w3 x3 HQ3 HO3 HG3 HC3
      obtain rfl : x = x3 := by simpa using HQ3.out.symm
      have hb3 : Below wr.heap.size wr w3 := (Below.alloc (Below.refl _ _) (Nat.le_refl _) _).trans (HC3.out.below (by simp) (fun k hk => by omega))
      have HB3 := Lib.hid hb3
      have hs3 := hb3.size
      have hg3l := HO3.out.lt
      have hg3e := HO3.out.ge
      have R3 := Lib.hid HO3.out.rwF.rw
      clear hb3 HQ3 HO3 HG3 HC3
      have HFC : Hid (EB true (w3.alloc (.cells #[.slice (some ⟨g3, 0, none⟩) x.length c3] 38)) (fun b => b = g3) w3.heap.size 0 x) := Lib.hid (by
        have e := block_cell (World.heap_new w3 (.cells #[.slice (some ⟨g3, 0, none⟩) x.length c3] 38) _ rfl) 0
        exact ⟨_, _, e.1, fun _ => e.2, R3.out.below (Below.alloc (Below.refl _ _) (Nat.le_refl _) _)⟩)
      have HFF : Hid (∀ b, b = g3 → w.heap.size ≤ b ∧ b < (w3.alloc (.cells #[.slice (some ⟨g3, 0, none⟩) x.length c3] 38)).heap.size ∧ Off (some ⟨g, 0, none⟩) b ∧ (true = true → wr.heap.size ≤ b)) := Lib.hid (by
        rintro b rfl
        have := HO.out.lt
        refine ⟨by omega, by simp; omega, fun a ha => ?_, fun _ => by omega⟩
        injection ha with ha
        subst ha
        simp only
        omega)
      go_wp2_with (at_builtin; refine wpList_appS (R := EB true) (u := true) (w0 := wr) (xs := q) (y := x) (Fn := fun b => b = g3) (T := fun b => w.heap.size ≤ b) (gb := w3.heap.size) rfl EB.mov (.tmp 12) (.tmp 19) 49 rfl 38 i0 (.slice none 0 0) 24 Try.underlying49 hI0 hz0 hz1 hz2 rfl (by decide) rfl HO.out ((HB3.out.alloc (by omega) _)) #[.slice (some ⟨g3, 0, none⟩) x.length c3] 38 (World.heap_new _ _ _ rfl) rfl (by simp [Value.oneCell']) rfl HFC.out HFF.out (by omega) (by decide) (by simp; omega) ?_)
      intro g4 c4 w4 q4 HQ4 HO4 HG4 HC4 HB4
      have HB5 := Lib.hid (((HB.out.trans (HB3.out.mono hws)).alloc (by omega) _).trans (HB4.out))
      go_wp2
      go_roundw
      case rel => exact ⟨i + 1, g4, c4, q4, by omega, by go_num, rfl, Lib.hid (by rw [HQ4.out, HTK.out, HQ.out]), HB5, HO4⟩
      case measure => simp [intOf]; omega
    · obtain rfl : i = xs.length := by omega
      obtain rfl : xs = q := by rw [HQ.out, List.take_length]
      have hsl := HO.out.sl
      have hcap : xs.length ≤ c := by
        obtain ⟨vs, F, h1, _⟩ := HO.out
        rcases h1.2 with ⟨h0, _⟩ | ⟨g', cap', cur, hv, _, _, h3, _⟩
        · cases h0
        · injection hv with _ _ hc; omega
      have HS2 : Hid (Sl true 1 (EB true) wr (fun b => w.heap.size ≤ b ∧ b < wr.heap.size) (some ⟨g, 0, none⟩) xs) := Lib.hid (hsl.wider (fun b hb => ⟨by rcases hb.1 with h | h <;> exact h, hb.2⟩))
      have HG := Lib.hid (And.intro HO.out.ge HO.out.lt)
      have HOS := Lib.hid ((HO.out.lower (Nat.zero_le _)).widerT (T' := fun b => w.heap.size ≤ b ∧ b < wr.heap.size) (fun b h1 h2 => ⟨h1, h2⟩))
      clear hsl HO
      go_wp2
      go_ret
      exact ⟨_, _, rfl, HB.out, hcap, HG.out.1, HG.out.2, HS2.out, HOS.out⟩

end Go.Proofs.Ytbfbjkcmehalhaa
