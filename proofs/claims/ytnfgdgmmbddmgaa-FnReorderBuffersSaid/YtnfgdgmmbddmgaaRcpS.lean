/- l22Copy of the reference, with the spare cells of what it returns. -/
import Derived.Test.YtnfgdgmmbddmgaaRcp
import Derived.Test.YtnfgdgmmbddmgaaSpare
namespace Go.Proofs.Ytnfgdgmmbddmgaa
open Go.RowKit
set_option linter.unusedVariables false
set_option linter.unusedSimpArgs false

def CpRBS (w : World) (st : Int) (xs : List NF) (e : Ending) (w' : World) : Prop := ∃ A c, e = .returned (.agg #[.int .i64 st, .slice A xs.length c]) ∧ Below w.heap.size w w' ∧ xs.length ≤ c ∧ Sl true 2 (EN true) w' (fun b => w.heap.size ≤ b ∧ b < w'.heap.size) A xs ∧ Spare w' 2 A c ∧ ∀ a, A = some a → w.heap.size ≤ a.block
set_option maxHeartbeats 8000000 in
theorem l22CopyS_any {T : Nat → Prop} (st : Int) (A : Option Addr) (c : Nat) (xs : List NF) (w : World) (hx : Sl false 2 (EN false) w T A xs) (hm : xs.length ≤ 1000000000) (hlx : ∀ x ∈ xs, x.2.length ≤ 1000000000) :
    Calls Try.prog 53 #[.agg #[.int .i64 st, .slice A xs.length c]] w fun e w' => CpRBS w st xs e w' := by
  obtain ⟨i0, hI0, hz0, hz1, hz2⟩ := info_parts infoNF
  obtain ⟨j0, hj, hy0, hy1, hy2⟩ := info_parts infoU8
  have HX := Lib.hid hx
  have HLX := Lib.hid hlx
  clear hx hlx
  go_enter Try.func53, Try.ntmps53
  go_wp2
  go_loopw [4] (fun p wr => ∃ (i : Nat) (A' : Option Addr) (c' : Nat) (q : List NF), i ≤ xs.length ∧ p = .int .i64 (i : Int) ∧ Hid (q = xs.take i) ∧ Hid (Below w.heap.size w wr) ∧ Hid (OwS true 2 (EN true) 75 wr (fun b => w.heap.size + 3 ≤ b) (w.heap.size + 3) A' c' q) ∧ w.heap.size + 2 < wr.heap.size ∧
      wr.cell? ⟨w.heap.size, 1, none⟩ = some (.slice A xs.length c) ∧ wr.cell? ⟨w.heap.size + 1, 0, none⟩ = some (.int .i64 0) ∧ wr.cell? ⟨w.heap.size + 1, 1, none⟩ = some (.slice none 0 0) ∧ wr.cell? ⟨w.heap.size + 2, 0, none⟩ = some (.int .i64 st) ∧ wr.cell? ⟨w.heap.size + 2, 1, none⟩ = some (.slice A' q.length c') ∧ wr.frozen? ⟨w.heap.size + 1, 0, none⟩ = false ∧ wr.frozen? ⟨w.heap.size + 1, 1, none⟩ = false ∧ wr.frozen? ⟨w.heap.size + 2, 1, none⟩ = false)
    (fun p _ => xs.length - (intOf p).toNat)
  case atStart =>
    refine ⟨0, none, 0, [], Nat.zero_le _, rfl, Lib.hid (by simp), Lib.hid (by repeat (first | (with_reducible exact Below.refl _ _) | (with_reducible refine Below.ext ?_ (by go_size) _ _) | (with_reducible refine Below.alloc ?_ (by go_size) _) | (with_reducible refine Below.setCell ?_ (by go_size) _) | (with_reducible refine Below.drew ?_) | (with_reducible refine Below.drewN_ ?_ _))), Lib.hid OwS.nil, by simp, ?_, ?_, ?_, ?_, ?_, ?_, ?_, ?_⟩
    all_goals (simp [go_sem]; try done)
  case round =>
    obtain ⟨i, A', c', q, hi, rfl, HQ, HB, HO, hws, hx1, r0, r1, ob0, ob1, z0, z1, zo⟩ := hrel
    have hqi : q.length ≤ 1000000000 := by rw [HQ.out]; refine Nat.le_trans ?_ hm; rw [List.length_take]; omega
    by_cases hlt : i < xs.length
    · obtain ⟨g, o, F, rfl, hg, ⟨hc0, _, ⟨B1, d1, hc1, _, hr1⟩⟩, _, _⟩ := HX.out.at_ i hlt
      replace hc0 := (HB.out.cell (p := ⟨g, o + i * 2, none⟩) hg).trans hc0
      replace hc1 := (HB.out.cell (p := ⟨g, o + i * 2 + 1, none⟩) hg).trans hc1
      have R1 := Lib.hid (hr1.below HB.out)
      have hxl := HLX.out _ (List.getElem_mem hlt)
      have htk : xs.take (i + 1) = xs.take i ++ [xs[i]] := by rw [List.take_add_one, List.getElem?_eq_getElem hlt]; rfl
      have HTK := Lib.hid htk
      have hlt2 : (i : Int) < (xs.length : Int) := by omega
      have hiw : IntKind.i64.wrap (i : Int) = (i : Int) := by rw [IntKind.wrap_i64]; omega
      have hgw : g < wr.heap.size := by omega
      have HAL : Hid (∀ a, A' = some a → a.block < wr.heap.size) := Lib.hid (by
        intro a' ha'
        obtain ⟨vs, F, h1, _⟩ := HO.out
        rcases h1.2 with ⟨h0, _⟩ | ⟨g', cap', cur, hv, _, hgg, _⟩
        · rw [ha'] at h0; cases h0
        · rw [ha'] at hv
          injection hv with hv
          injection hv with hv
          subst hv
          rcases Nat.lt_or_ge g' wr.heap.size with h | h
          · exact h
          · rw [Array.getElem?_eq_none h] at hgg; cases hgg)
      clear hr1 htk
      generalize xs[i] = y at *
      obtain ⟨s, x⟩ := y
      simp only at hc0 hc1 R1 hxl
      have hw01 : w.heap.size < wr.heap.size := by omega
      go_wp2
      refine wp_region_held_drew (S := (fun w' => w'.cell? ⟨w.heap.size, 1, none⟩ = some (.slice (some ⟨g, o, none⟩) xs.length c) ∧ w'.cell? ⟨g, o + i * 2, none⟩ = some (.int .i64 s) ∧ w'.cell? ⟨g, o + i * 2 + 1, none⟩ = some (.slice B1 x.length d1))) (by kernel_rfl) ?_ (fun hHeld => ?_)
      · first | exact ⟨hx1, hc0, hc1⟩ | exact ⟨m1, k0, k1⟩ | exact ⟨(World.cell?_alloc_lt _ _ _ (by simp only; omega)).trans m1, (World.cell?_alloc_lt _ _ _ (by simp only; omega)).trans k0, (World.cell?_alloc_lt _ _ _ (by simp only; omega)).trans k1⟩ | exact ⟨(World.cell?_setCell_far _ _ _ _ (by simp only; omega)).trans ((World.cell?_setCell_far _ _ _ _ (by simp only; omega)).trans (m1)), (World.cell?_setCell_far _ _ _ _ (by simp only; omega)).trans ((World.cell?_setCell_far _ _ _ _ (by simp only; omega)).trans (k0)), (World.cell?_setCell_far _ _ _ _ (by simp only; omega)).trans ((World.cell?_setCell_far _ _ _ _ (by simp only; omega)).trans (k1))⟩ | (simp [go_sem, *]; done)
      refine wpAnyH_takeW (i := 0) (d := some 16) (v := ?_) (by simp only [List.getElem?_toArray, List.getElem?_cons_succ, List.getElem?_cons_zero]; rfl) (by rfl) (by kernel_rfl) (by kernel_rfl) (by kernel_rfl) (by intro _ _ _ h; exact h) (by rfl) ?_ (by assumption) ?_
      rotate_left 1
      · (intro w hSw; (try dsimp only at hSw); go_simp; try (with_reducible rfl))
      (try simp only [Act.put, List.setIfInBounds_toArray, List.set_cons_zero, List.set_cons_succ])
      refine wpAnyH_takeW (i := 1) (d := some 17) (v := ?_) (by simp only [List.getElem?_toArray, List.getElem?_cons_succ, List.getElem?_cons_zero]; rfl) (by rfl) (by kernel_rfl) (by kernel_rfl) (by kernel_rfl) (by intro _ _ _ h; exact h) (by rfl) ?_ (by assumption) ?_
      rotate_left 1
      · (intro w hSw; (try dsimp only at hSw); go_simp; try (with_reducible rfl))
      (try simp only [Act.put, List.setIfInBounds_toArray, List.set_cons_zero, List.set_cons_succ])
      refine wpAnyH_takeW (i := 2) (d := some 18) (v := ?_) (by simp only [List.getElem?_toArray, List.getElem?_cons_succ, List.getElem?_cons_zero]; rfl) (by rfl) (by kernel_rfl) (by kernel_rfl) (by kernel_rfl) (by intro _ _ _ h; exact h) (by rfl) ?_ (by assumption) ?_
      rotate_left 1
      · (intro w hSw; (try dsimp only at hSw); go_simp; try (with_reducible rfl))
      (try simp only [Act.put, List.setIfInBounds_toArray, List.set_cons_zero, List.set_cons_succ])
      refine wpAnyH_takeW (i := 3) (d := some 19) (v := ?_) (by simp only [List.getElem?_toArray, List.getElem?_cons_succ, List.getElem?_cons_zero]; rfl) (by rfl) (by kernel_rfl) (by kernel_rfl) (by kernel_rfl) (by intro _ _ _ h; exact h) (by rfl) ?_ (by assumption) ?_
      rotate_left 1
      · (intro w hSw; (try dsimp only at hSw); go_simp; try (with_reducible rfl))
      (try simp only [Act.put, List.setIfInBounds_toArray, List.set_cons_zero, List.set_cons_succ])
      refine wpAnyH_takeW (i := 4) (d := some 20) (v := ?_) (by simp only [List.getElem?_toArray, List.getElem?_cons_succ, List.getElem?_cons_zero]; rfl) (by rfl) (by kernel_rfl) (by kernel_rfl) (by kernel_rfl) (by intro _ _ _ h; exact h) (by rfl) ?_ (by assumption) ?_
      rotate_left 1
      · (intro w hSw; (try dsimp only at hSw); go_simp; try (with_reducible rfl))
      (try simp only [Act.put, List.setIfInBounds_toArray, List.set_cons_zero, List.set_cons_succ])
      refine wpAnyH_takeW (i := 5) (d := some 21) (v := ?_) (by simp only [List.getElem?_toArray, List.getElem?_cons_succ, List.getElem?_cons_zero]; rfl) (by rfl) (by kernel_rfl) (by kernel_rfl) (by kernel_rfl) (by intro _ _ _ h; exact h) (by rfl) ?_ (by assumption) ?_
      rotate_left 1
      · (intro w hSw; (try dsimp only at hSw); go_simp; try (with_reducible rfl))
      (try simp only [Act.put, List.setIfInBounds_toArray, List.set_cons_zero, List.set_cons_succ])
      refine wpAnyH_takeW (i := 7) (d := some 23) (v := ?_) (by simp only [List.getElem?_toArray, List.getElem?_cons_succ, List.getElem?_cons_zero]; rfl) (by rfl) (by kernel_rfl) (by kernel_rfl) (by kernel_rfl) (by intro _ _ _ h; exact h) (by rfl) ?_ (by assumption) ?_
      rotate_left 1
      · (intro w hSw; (try dsimp only at hSw); go_simp; try (with_reducible rfl))
      (try simp only [Act.put, List.setIfInBounds_toArray, List.set_cons_zero, List.set_cons_succ])
      refine wpAnyH_takeW (i := 8) (d := some 24) (v := ?_) (by simp only [List.getElem?_toArray, List.getElem?_cons_succ, List.getElem?_cons_zero]; rfl) (by rfl) (by kernel_rfl) (by kernel_rfl) (by kernel_rfl) (by intro _ _ _ h; exact h) (by rfl) ?_ (by assumption) ?_
      rotate_left 1
      · (intro w hSw; (try dsimp only at hSw); go_simp; try (with_reducible rfl))
      (try simp only [Act.put, List.setIfInBounds_toArray, List.set_cons_zero, List.set_cons_succ])
      refine wpAnyH_takeW (i := 9) (d := some 25) (v := ?_) (by simp only [List.getElem?_toArray, List.getElem?_cons_succ, List.getElem?_cons_zero]; rfl) (by rfl) (by kernel_rfl) (by kernel_rfl) (by kernel_rfl) (by intro _ _ _ h; exact h) (by rfl) ?_ (by assumption) ?_
      rotate_left 1
      · (intro w hSw; (try dsimp only at hSw); go_simp; try (with_reducible rfl))
      (try simp only [Act.put, List.setIfInBounds_toArray, List.set_cons_zero, List.set_cons_succ])
      refine wpAnyH_takeW (i := 10) (d := some 26) (v := ?_) (by simp only [List.getElem?_toArray, List.getElem?_cons_succ, List.getElem?_cons_zero]; rfl) (by rfl) (by kernel_rfl) (by kernel_rfl) (by kernel_rfl) (by intro _ _ _ h; exact h) (by rfl) ?_ (by assumption) ?_
      rotate_left 1
      · (intro w hSw; (try dsimp only at hSw); go_simp; try (with_reducible rfl))
      (try simp only [Act.put, List.setIfInBounds_toArray, List.set_cons_zero, List.set_cons_succ])
      refine wpAnyH_takeW (i := 11) (d := some 27) (v := ?_) (by simp only [List.getElem?_toArray, List.getElem?_cons_succ, List.getElem?_cons_zero]; rfl) (by rfl) (by kernel_rfl) (by kernel_rfl) (by kernel_rfl) (by intro _ _ _ h; exact h) (by rfl) ?_ (by assumption) ?_
      rotate_left 1
      · (intro w hSw; (try dsimp only at hSw); go_simp; try (with_reducible rfl))
      (try simp only [Act.put, List.setIfInBounds_toArray, List.set_cons_zero, List.set_cons_succ])
      refine wpAnyH_takeW (i := 12) (d := some 28) (v := ?_) (by simp only [List.getElem?_toArray, List.getElem?_cons_succ, List.getElem?_cons_zero]; rfl) (by rfl) (by kernel_rfl) (by kernel_rfl) (by kernel_rfl) (by intro _ _ _ h; exact h) (by rfl) ?_ (by assumption) ?_
      rotate_left 1
      · (intro w hSw; (try dsimp only at hSw); go_simp; try (with_reducible rfl))
      (try simp only [Act.put, List.setIfInBounds_toArray, List.set_cons_zero, List.set_cons_succ])
      refine wpAnyH_ready (rs := [6, 15]) (by kernel_rfl) (by simp) ?_
      refine (AllReadyH.cons (i := 6) (by simp only [List.getElem?_toArray, List.getElem?_cons_succ, List.getElem?_cons_zero]; rfl) (fun K hK => ?_) (AllReadyH.cons (i := 15) (by simp only [List.getElem?_toArray, List.getElem?_cons_succ, List.getElem?_cons_zero]; rfl) (fun K hK => ?_) AllReadyH.nil))
      · go_simp
        go_wp2_with fail
        refine hK.out _ _ ?_ (fun hHeld => ?_)
        · ((try dsimp only); first | exact ⟨hx1, hc0, hc1⟩ | exact ⟨m1, k0, k1⟩ | exact ⟨(World.cell?_alloc_lt _ _ _ (by simp only; omega)).trans m1, (World.cell?_alloc_lt _ _ _ (by simp only; omega)).trans k0, (World.cell?_alloc_lt _ _ _ (by simp only; omega)).trans k1⟩ | exact ⟨(World.cell?_setCell_far _ _ _ _ (by simp only; omega)).trans ((World.cell?_setCell_far _ _ _ _ (by simp only; omega)).trans (m1)), (World.cell?_setCell_far _ _ _ _ (by simp only; omega)).trans ((World.cell?_setCell_far _ _ _ _ (by simp only; omega)).trans (k0)), (World.cell?_setCell_far _ _ _ _ (by simp only; omega)).trans ((World.cell?_setCell_far _ _ _ _ (by simp only; omega)).trans (k1))⟩ | (simp [go_sem, *]; done))
        clear hK K
        (try simp only [Act.put, List.setIfInBounds_toArray, List.set_cons_zero, List.set_cons_succ])
        refine wpAnyH_ready (rs := [13, 15]) (by kernel_rfl) (by simp) ?_
        refine (AllReadyH.cons (i := 13) (by simp only [List.getElem?_toArray, List.getElem?_cons_succ, List.getElem?_cons_zero]; rfl) (fun K hK => ?_) (AllReadyH.cons (i := 15) (by simp only [List.getElem?_toArray, List.getElem?_cons_succ, List.getElem?_cons_zero]; rfl) (fun K hK => ?_) AllReadyH.nil))
        · (refine step_appR rfl (.tmp 22) (.tmp 28) 38 rfl 5 j0 (.int .u8 0) 1 Try.underlying38 hj hy0 hy1 hy2 rfl wr.heap.size _ _ _ rfl (OwR.new (f := Value.int .u8) (by first | exact Nat.le_refl _ | omega | (simp; done) | (simp; omega)) (by first | exact World.heap_new _ _ _ rfl | (refine World.heap_new _ _ _ ?_; simp; done) | (refine ((Below.alloc (Below.refl _ _) (Nat.le_refl _) _).block _ ?_).trans (World.heap_new _ _ _ rfl); exact Nat.lt_succ_self _) | (refine ((Below.alloc (Below.refl _ _) (Nat.le_refl _) _).block _ ?_).trans (World.heap_new _ _ _ rfl); simp))) _ x _ (fun _ _ => rfl) rfl ((R1.out.below (by repeat (first | (with_reducible exact Below.refl _ _) | (with_reducible refine Below.ext ?_ (by go_size) _ _) | (with_reducible refine Below.alloc ?_ (by go_size) _) | (with_reducible refine Below.setCell ?_ (by go_size) _) | (with_reducible refine Below.drew ?_) | (with_reducible refine Below.drewN_ ?_ _)))).rwF) (by first | omega | (simp; done) | (simp; omega)) (by decide) (by first | omega | (simp; done) | (simp; omega)) ?_)
          intro g5 c5 w3 q5 HQ5 HO5 HG5 HC5
          obtain rfl : x = q5 := by simpa using HQ5.out.symm
          have hb3 : Below wr.heap.size wr w3 := Below.trans (by repeat (first | (with_reducible exact Below.refl _ _) | (with_reducible refine Below.ext ?_ (by go_size) _ _) | (with_reducible refine Below.alloc ?_ (by go_size) _) | (with_reducible refine Below.setCell ?_ (by go_size) _) | (with_reducible refine Below.drew ?_) | (with_reducible refine Below.drewN_ ?_ _))) (HC5.out.below (by simp; try omega) (fun k hk => by subst hk; (first | exact Nat.le_refl _ | (simp; done) | (simp; omega) | omega)))
          have hs3 := hb3.size
          have hc5s := HC5.out.size
          try simp at hc5s
          have hg5l := HO5.out.lt
          have hg5e : wr.heap.size ≤ g5 := HO5.out.ge
          have HG5n := Lib.hid HG5.out
          have HB3 := Lib.hid hb3
          have R3 := Lib.hid HO5.out.rwF.rw
          have m1 := (hb3.cell (p := ⟨w.heap.size, 1, none⟩) (by simp only; omega)).trans hx1
          have k0 := (hb3.cell (p := ⟨g, o + i * 2, none⟩) hgw).trans hc0
          have k1 := (hb3.cell (p := ⟨g, o + i * 2 + 1, none⟩) hgw).trans hc1
    
          clear HQ5 HO5 HG5 HC5 hb3
          go_wp2_with fail
          refine hK.out _ _ ?_ (fun hHeld => ?_)
          · ((try dsimp only); first | exact ⟨hx1, hc0, hc1⟩ | exact ⟨m1, k0, k1⟩ | exact ⟨(World.cell?_alloc_lt _ _ _ (by simp only; omega)).trans m1, (World.cell?_alloc_lt _ _ _ (by simp only; omega)).trans k0, (World.cell?_alloc_lt _ _ _ (by simp only; omega)).trans k1⟩ | exact ⟨(World.cell?_setCell_far _ _ _ _ (by simp only; omega)).trans ((World.cell?_setCell_far _ _ _ _ (by simp only; omega)).trans (m1)), (World.cell?_setCell_far _ _ _ _ (by simp only; omega)).trans ((World.cell?_setCell_far _ _ _ _ (by simp only; omega)).trans (k0)), (World.cell?_setCell_far _ _ _ _ (by simp only; omega)).trans ((World.cell?_setCell_far _ _ _ _ (by simp only; omega)).trans (k1))⟩ | (simp [go_sem, *]; done))
          clear hK K
          (try simp only [Act.put, List.setIfInBounds_toArray, List.set_cons_zero, List.set_cons_succ])
          refine wpAnyH_takeW (i := 14) (d := some 30) (v := ?_) (by simp only [List.getElem?_toArray, List.getElem?_cons_succ, List.getElem?_cons_zero]; rfl) (by rfl) (by kernel_rfl) (by kernel_rfl) (by kernel_rfl) (by intro _ _ _ h; exact h) (by rfl) ?_ (by assumption) ?_
          rotate_left 1
          · (intro w hSw; (try dsimp only at hSw); go_simp; try (with_reducible rfl))
          (try simp only [Act.put, List.setIfInBounds_toArray, List.set_cons_zero, List.set_cons_succ])
          refine wpAnyH_ready (rs := [15]) (by kernel_rfl) (by simp) ?_
          refine (AllReadyH.cons (i := 15) (by simp only [List.getElem?_toArray, List.getElem?_cons_succ, List.getElem?_cons_zero]; rfl) (fun K hK => ?_) AllReadyH.nil)
          go_simp
          go_wp2_with fail
          refine hK.out _ _ ?_ (fun hHeld => ?_)
          · ((try dsimp only); first | exact ⟨hx1, hc0, hc1⟩ | exact ⟨m1, k0, k1⟩ | exact ⟨(World.cell?_alloc_lt _ _ _ (by simp only; omega)).trans m1, (World.cell?_alloc_lt _ _ _ (by simp only; omega)).trans k0, (World.cell?_alloc_lt _ _ _ (by simp only; omega)).trans k1⟩ | exact ⟨(World.cell?_setCell_far _ _ _ _ (by simp only; omega)).trans ((World.cell?_setCell_far _ _ _ _ (by simp only; omega)).trans (m1)), (World.cell?_setCell_far _ _ _ _ (by simp only; omega)).trans ((World.cell?_setCell_far _ _ _ _ (by simp only; omega)).trans (k0)), (World.cell?_setCell_far _ _ _ _ (by simp only; omega)).trans ((World.cell?_setCell_far _ _ _ _ (by simp only; omega)).trans (k1))⟩ | (simp [go_sem, *]; done))
          clear hK K
          (try simp only [Act.put, List.setIfInBounds_toArray, List.set_cons_zero, List.set_cons_succ])
          refine wpAnyH_ready (rs := [16]) (by kernel_rfl) (by simp) ?_
          refine (AllReadyH.cons (i := 16) (by simp only [List.getElem?_toArray, List.getElem?_cons_succ, List.getElem?_cons_zero]; rfl) (fun K hK => ?_) AllReadyH.nil)
          go_simp
          go_wp2_with fail
          refine hK.out _ _ ?_ (fun hHeld => ?_)
          · ((try dsimp only); first | exact ⟨hx1, hc0, hc1⟩ | exact ⟨m1, k0, k1⟩ | exact ⟨(World.cell?_alloc_lt _ _ _ (by simp only; omega)).trans m1, (World.cell?_alloc_lt _ _ _ (by simp only; omega)).trans k0, (World.cell?_alloc_lt _ _ _ (by simp only; omega)).trans k1⟩ | exact ⟨(World.cell?_setCell_far _ _ _ _ (by simp only; omega)).trans ((World.cell?_setCell_far _ _ _ _ (by simp only; omega)).trans (m1)), (World.cell?_setCell_far _ _ _ _ (by simp only; omega)).trans ((World.cell?_setCell_far _ _ _ _ (by simp only; omega)).trans (k0)), (World.cell?_setCell_far _ _ _ _ (by simp only; omega)).trans ((World.cell?_setCell_far _ _ _ _ (by simp only; omega)).trans (k1))⟩ | (simp [go_sem, *]; done))
          clear hK K
          (try simp only [Act.put, List.setIfInBounds_toArray, List.set_cons_zero, List.set_cons_succ])
          refine wpAnyH_done (by kernel_rfl) ?_ _
          have hW5 : Chg (fun b => b = w3.heap.size) w3 (w3.alloc (.cells #[.int .i64 s, .slice (some ⟨g5, 0, none⟩) x.length c5] 75)) := Chg.of_below (Below.alloc (Below.refl _ _) (Nat.le_refl _) _)
          have hgne : g5 ≠ w3.heap.size := by have := HG5n.out; (first | omega | (simp at this; omega))
          have f0 : (w3.alloc (.cells #[.int .i64 s, .slice (some ⟨g5, 0, none⟩) x.length c5] 75)).cell? ⟨w3.heap.size, 0, none⟩ = some (.int .i64 s) := (block_cell (World.heap_new _ _ _ rfl) 0).1
          have f1 : (w3.alloc (.cells #[.int .i64 s, .slice (some ⟨g5, 0, none⟩) x.length c5] 75)).cell? ⟨w3.heap.size, 1, none⟩ = some (.slice (some ⟨g5, 0, none⟩) x.length c5) := (block_cell (World.heap_new _ _ _ rfl) 1).1
          have HB5 := Lib.hid (HB3.out.trans (hW5.below (by omega) (fun k hk => by omega)))
          have R5 := Lib.hid (R3.out.frame hW5 (fun b h1 h2 => hgne (h1.symm.trans h2)))
          have hs5 := hW5.size
          have HF0 := Lib.hid f0
          have HF1 := Lib.hid f1
          have HS5 := Lib.hid hs5
          clear f0 f1 hW5 hs5 hgne
          generalize (w3.alloc (.cells #[.int .i64 s, .slice (some ⟨g5, 0, none⟩) x.length c5] 75)) = w5 at *
          have f0 := HF0.out
          have f1 := HF1.out
          have hs5 := HS5.out
          have x0 := (HB5.out.cell (p := ⟨w.heap.size + 1, 0, none⟩) (by simp only; omega)).trans r0
          have x1 := (HB5.out.cell (p := ⟨w.heap.size + 1, 1, none⟩) (by simp only; omega)).trans r1
          have a1 := (HB5.out.cell (p := ⟨w.heap.size, 1, none⟩) (by simp only; omega)).trans hx1
          have p0 := (HB5.out.cell (p := ⟨w.heap.size + 2, 0, none⟩) (by simp only; omega)).trans ob0
          have p1 := (HB5.out.cell (p := ⟨w.heap.size + 2, 1, none⟩) (by simp only; omega)).trans ob1
          have y0 := (HB5.out.frozen (p := ⟨w.heap.size + 1, 0, none⟩) (by simp only; omega)).trans z0
          have y1 := (HB5.out.frozen (p := ⟨w.heap.size + 1, 1, none⟩) (by simp only; omega)).trans z1
          have y2 := (HB5.out.frozen (p := ⟨w.heap.size + 2, 1, none⟩) (by simp only; omega)).trans zo
          have hal : Below w5.heap.size w5 (w5.alloc (.cells #[.int .i64 s, .slice (some ⟨g5, 0, none⟩) x.length c5] 75)) := Below.alloc (Below.refl _ _) (Nat.le_refl _) _
          have HBW : Hid (Below wr.heap.size wr (w5.alloc (.cells #[.int .i64 s, .slice (some ⟨g5, 0, none⟩) x.length c5] 75))) := Lib.hid (HB5.out.trans (hal.mono (by omega)))
          have HBK : Hid ((w5.alloc (.cells #[.int .i64 s, .slice (some ⟨g5, 0, none⟩) x.length c5] 75)).heap[w5.heap.size]? = some (.cells #[.int .i64 s, .slice (some ⟨g5, 0, none⟩) x.length c5] 75)) := Lib.hid (World.heap_new _ _ _ rfl)
          have HBA : Hid (w.heap.size + 3 ≤ (w5.alloc (.cells #[.int .i64 s, .slice (some ⟨g5, 0, none⟩) x.length c5] 75)).heap.size) := Lib.hid (by simp; omega)
          have HFC : Hid (EN true (w5.alloc (.cells #[.int .i64 s, .slice (some ⟨g5, 0, none⟩) x.length c5] 75)) (fun b => b = g5) w5.heap.size 0 (s, x)) := Lib.hid (by
            have e0 := block_cell HBK.out 0
            have e1 := block_cell HBK.out 1
            exact ⟨e0.1, fun _ => e0.2, _, _, e1.1, fun _ => e1.2, R5.out.below hal⟩)
          have HFF : Hid (∀ b, b = g5 → (fun b => w.heap.size + 3 ≤ b) b ∧ b < (w5.alloc (.cells #[.int .i64 s, .slice (some ⟨g5, 0, none⟩) x.length c5] 75)).heap.size ∧ Off A' b ∧ wr.heap.size ≤ b) := Lib.hid (by
            rintro b rfl
            refine ⟨by show w.heap.size + 3 ≤ b; omega, by simp; omega, fun a' ha' => ?_, by omega⟩
            have := HAL.out a' ha'
            omega)
          have q1 := Lib.hid ((hal.cell (p := ⟨w.heap.size + 1, 0, none⟩) (by simp only; omega)).trans x0)
          have q2 := Lib.hid ((hal.cell (p := ⟨w.heap.size + 1, 1, none⟩) (by simp only; omega)).trans x1)
          have q3 := Lib.hid ((hal.cell (p := ⟨w.heap.size, 1, none⟩) (by simp only; omega)).trans a1)
          have q4 := Lib.hid ((hal.cell (p := ⟨w.heap.size + 2, 0, none⟩) (by simp only; omega)).trans p0)
          have q5_ := Lib.hid ((hal.cell (p := ⟨w.heap.size + 2, 1, none⟩) (by simp only; omega)).trans p1)
          have q6 := Lib.hid ((hal.frozen (p := ⟨w.heap.size + 1, 0, none⟩) (by simp only; omega)).trans y0)
          have q7 := Lib.hid ((hal.frozen (p := ⟨w.heap.size + 1, 1, none⟩) (by simp only; omega)).trans y1)
          have q8 := Lib.hid ((hal.frozen (p := ⟨w.heap.size + 2, 1, none⟩) (by simp only; omega)).trans y2)
          have HN5 := Lib.hid (show w.heap.size + 3 ≤ w5.heap.size by omega)
          clear hal hx1 hc0 hc1
          go_wp2_with (at_builtin; refine wpList_appS (R := EN true) (u := true) (w0 := wr) (xs := q) (y := (s, x)) (Fn := fun b => b = g5) (T := (fun b => w.heap.size + 3 ≤ b)) (gb := w5.heap.size) rfl EN.mov (.tmp 32) (.tmp 34) 26 rfl 75 i0 (.agg #[.int .i64 0, .slice none 0 0]) 32 Try.underlying26 hI0 hz0 hz1 hz2 (by simp [Value.cells]) (by decide) rfl HO.out HBW.out #[.int .i64 s, .slice (some ⟨g5, 0, none⟩) x.length c5] 75 HBK.out rfl (by simp [Value.oneCell']) rfl HFC.out (fun b hb => ⟨(HFF.out b hb).1, (HFF.out b hb).2.1, (HFF.out b hb).2.2.1, fun _ => (HFF.out b hb).2.2.2⟩) hqi (by decide) HBA.out ?_)
          intro g4 c4 w4 q4' HQ4 HO4 HG4 HC4 HB4
          have hn5 := HN5.out
          have bel : ∀ p : Addr, p.block < w.heap.size + 3 → w4.cell? p = (w5.alloc (.cells #[.int .i64 s, .slice (some ⟨g5, 0, none⟩) x.length c5] 75)).cell? p ∧ w4.frozen? p = (w5.alloc (.cells #[.int .i64 s, .slice (some ⟨g5, 0, none⟩) x.length c5] 75)).frozen? p := fun p hp => ⟨HB4.out.cell hp, HB4.out.frozen hp⟩
          have t0 := (bel ⟨w.heap.size + 1, 0, none⟩ (by simp only; omega)).1.trans q1.out
          have t1 := (bel ⟨w.heap.size + 1, 1, none⟩ (by simp only; omega)).1.trans q2.out
          have t2 := (bel ⟨w.heap.size, 1, none⟩ (by simp only; omega)).1.trans q3.out
          have t3 := (bel ⟨w.heap.size + 2, 0, none⟩ (by simp only; omega)).1.trans q4.out
          have t4 := (bel ⟨w.heap.size + 2, 1, none⟩ (by simp only; omega)).1.trans q5_.out
          have v0 := (bel ⟨w.heap.size + 1, 0, none⟩ (by simp only; omega)).2.trans q6.out
          have v1 := (bel ⟨w.heap.size + 1, 1, none⟩ (by simp only; omega)).2.trans q7.out
          have v2 := (bel ⟨w.heap.size + 2, 1, none⟩ (by simp only; omega)).2.trans q8.out
          have HB6 := Lib.hid ((HB.out.trans (HBW.out.mono (by omega))).trans (HB4.out.mono (by omega)))
          have hge4 := HO4.out.ge
          have hlt4 := HO4.out.lt
          have HT0 := Lib.hid t0
          have HT1 := Lib.hid t1
          have HT2 := Lib.hid t2
          have HT3 := Lib.hid t3
          have HV0 := Lib.hid v0
          have HV1 := Lib.hid v1
          clear bel t0 t1 t2 t3 v0 v1 q1 q2 q3 q4 q5_ q6 q7 q8 f0 f1 x0 x1 a1 p0 p1 y0 y1 y2
          go_wp2
          go_roundw
          case rel =>
            have hfin : Chg (fun b => b = w.heap.size + 2) w4 (w4.setCell ⟨w.heap.size + 2, 1, none⟩ (.slice (some ⟨g4, 0, none⟩) q4'.length c4)) := Chg.setCell_ (S := fun b => b = w.heap.size + 2) (Chg.refl _ _) (p := ⟨w.heap.size + 2, 1, none⟩) rfl _
            refine ⟨i + 1, some ⟨g4, 0, none⟩, c4, q4', by omega, by go_num, Lib.hid (by rw [HQ4.out, HQ.out, HTK.out]), Lib.hid (HB6.out.trans (hfin.below (by omega) (fun k hk => by omega))), Lib.hid (OwS.frame (R := EN true) EN.framed HO4.out hfin (fun b hb h2 => by omega) (fun a' ha' h2 => by injection ha' with ha'; subst ha'; simp only at h2; omega)), by simp [World.setCell]; omega, ?_, ?_, ?_, ?_, ?_, ?_, ?_, ?_⟩
            · exact (hfin.cell (p := ⟨w.heap.size, 1, none⟩) (by simp only; omega) (by simp only; omega)).trans HT2.out
            · exact (hfin.cell (p := ⟨w.heap.size + 1, 0, none⟩) (by simp only; omega) (by simp only; omega)).trans HT0.out
            · exact (hfin.cell (p := ⟨w.heap.size + 1, 1, none⟩) (by simp only; omega) (by simp only; omega)).trans HT1.out
            · rw [World.cell?_setCell_other _ _ _ _ (fun e => by injection e with _ e2; omega)]; exact HT3.out
            · exact World.cell?_setCell_same _ _ _ t4
            · exact (World.frozen?_setCell _ _ _ _).trans HV0.out
            · exact (World.frozen?_setCell _ _ _ _).trans HV1.out
            · exact (World.frozen?_setCell _ _ _ _).trans v2
          case measure => simp [intOf]; omega
        · go_simp
          go_wp2_with fail
          refine hK.out _ _ ?_ (fun hHeld => ?_)
          · ((try dsimp only); first | exact ⟨hx1, hc0, hc1⟩ | exact ⟨m1, k0, k1⟩ | exact ⟨(World.cell?_alloc_lt _ _ _ (by simp only; omega)).trans m1, (World.cell?_alloc_lt _ _ _ (by simp only; omega)).trans k0, (World.cell?_alloc_lt _ _ _ (by simp only; omega)).trans k1⟩ | exact ⟨(World.cell?_setCell_far _ _ _ _ (by simp only; omega)).trans ((World.cell?_setCell_far _ _ _ _ (by simp only; omega)).trans (m1)), (World.cell?_setCell_far _ _ _ _ (by simp only; omega)).trans ((World.cell?_setCell_far _ _ _ _ (by simp only; omega)).trans (k0)), (World.cell?_setCell_far _ _ _ _ (by simp only; omega)).trans ((World.cell?_setCell_far _ _ _ _ (by simp only; omega)).trans (k1))⟩ | (simp [go_sem, *]; done))
          clear hK K
          (try simp only [Act.put, List.setIfInBounds_toArray, List.set_cons_zero, List.set_cons_succ])
          refine wpAnyH_ready (rs := [13]) (by kernel_rfl) (by simp) ?_
          refine (AllReadyH.cons (i := 13) (by simp only [List.getElem?_toArray, List.getElem?_cons_succ, List.getElem?_cons_zero]; rfl) (fun K hK => ?_) AllReadyH.nil)
          (refine step_appR rfl (.tmp 22) (.tmp 28) 38 rfl 5 j0 (.int .u8 0) 1 Try.underlying38 hj hy0 hy1 hy2 rfl wr.heap.size _ _ _ rfl (OwR.new (f := Value.int .u8) (by first | exact Nat.le_refl _ | omega | (simp; done) | (simp; omega)) (by first | exact World.heap_new _ _ _ rfl | (refine World.heap_new _ _ _ ?_; simp; done) | (refine ((Below.alloc (Below.refl _ _) (Nat.le_refl _) _).block _ ?_).trans (World.heap_new _ _ _ rfl); exact Nat.lt_succ_self _) | (refine ((Below.alloc (Below.refl _ _) (Nat.le_refl _) _).block _ ?_).trans (World.heap_new _ _ _ rfl); simp))) _ x _ (fun _ _ => rfl) rfl ((R1.out.below (by repeat (first | (with_reducible exact Below.refl _ _) | (with_reducible refine Below.ext ?_ (by go_size) _ _) | (with_reducible refine Below.alloc ?_ (by go_size) _) | (with_reducible refine Below.setCell ?_ (by go_size) _) | (with_reducible refine Below.drew ?_) | (with_reducible refine Below.drewN_ ?_ _)))).rwF) (by first | omega | (simp; done) | (simp; omega)) (by decide) (by first | omega | (simp; done) | (simp; omega)) ?_)
          intro g5 c5 w3 q5 HQ5 HO5 HG5 HC5
          obtain rfl : x = q5 := by simpa using HQ5.out.symm
          have hb3 : Below wr.heap.size wr w3 := Below.trans (by repeat (first | (with_reducible exact Below.refl _ _) | (with_reducible refine Below.ext ?_ (by go_size) _ _) | (with_reducible refine Below.alloc ?_ (by go_size) _) | (with_reducible refine Below.setCell ?_ (by go_size) _) | (with_reducible refine Below.drew ?_) | (with_reducible refine Below.drewN_ ?_ _))) (HC5.out.below (by simp; try omega) (fun k hk => by subst hk; (first | exact Nat.le_refl _ | (simp; done) | (simp; omega) | omega)))
          have hs3 := hb3.size
          have hc5s := HC5.out.size
          try simp at hc5s
          have hg5l := HO5.out.lt
          have hg5e : wr.heap.size ≤ g5 := HO5.out.ge
          have HG5n := Lib.hid HG5.out
          have HB3 := Lib.hid hb3
          have R3 := Lib.hid HO5.out.rwF.rw
          have m1 := (hb3.cell (p := ⟨w.heap.size, 1, none⟩) (by simp only; omega)).trans hx1
          have k0 := (hb3.cell (p := ⟨g, o + i * 2, none⟩) hgw).trans hc0
          have k1 := (hb3.cell (p := ⟨g, o + i * 2 + 1, none⟩) hgw).trans hc1
          have xb0 := (HC5.out.cell (p := ⟨(wr.heap.size + 1), 0, none⟩) (by first | (simp; done) | (simp; omega) | omega) (by first | (simp; done) | (simp; omega) | omega)).trans (show _ = some (.int .i64 0) by simp [go_sem])
          have xf0 := (HC5.out.frozen (p := ⟨(wr.heap.size + 1), 0, none⟩) (by first | (simp; done) | (simp; omega) | omega) (by first | (simp; done) | (simp; omega) | omega)).trans (show _ = false by simp [go_sem])
          have xb1 := (HC5.out.cell (p := ⟨(wr.heap.size + 1), 1, none⟩) (by first | (simp; done) | (simp; omega) | omega) (by first | (simp; done) | (simp; omega) | omega)).trans (show _ = some (.slice none 0 0) by simp [go_sem])
          have xf1 := (HC5.out.frozen (p := ⟨(wr.heap.size + 1), 1, none⟩) (by first | (simp; done) | (simp; omega) | omega) (by first | (simp; done) | (simp; omega) | omega)).trans (show _ = false by simp [go_sem])
          clear HQ5 HO5 HG5 HC5 hb3
          go_wp2_with fail
          refine hK.out _ _ ?_ (fun hHeld => ?_)
          · ((try dsimp only); first | exact ⟨hx1, hc0, hc1⟩ | exact ⟨m1, k0, k1⟩ | exact ⟨(World.cell?_alloc_lt _ _ _ (by simp only; omega)).trans m1, (World.cell?_alloc_lt _ _ _ (by simp only; omega)).trans k0, (World.cell?_alloc_lt _ _ _ (by simp only; omega)).trans k1⟩ | exact ⟨(World.cell?_setCell_far _ _ _ _ (by simp only; omega)).trans ((World.cell?_setCell_far _ _ _ _ (by simp only; omega)).trans (m1)), (World.cell?_setCell_far _ _ _ _ (by simp only; omega)).trans ((World.cell?_setCell_far _ _ _ _ (by simp only; omega)).trans (k0)), (World.cell?_setCell_far _ _ _ _ (by simp only; omega)).trans ((World.cell?_setCell_far _ _ _ _ (by simp only; omega)).trans (k1))⟩ | (simp [go_sem, *]; done))
          clear hK K
          (try simp only [Act.put, List.setIfInBounds_toArray, List.set_cons_zero, List.set_cons_succ])
          refine wpAnyH_takeW (i := 14) (d := some 30) (v := ?_) (by simp only [List.getElem?_toArray, List.getElem?_cons_succ, List.getElem?_cons_zero]; rfl) (by rfl) (by kernel_rfl) (by kernel_rfl) (by kernel_rfl) (by intro _ _ _ h; exact h) (by rfl) ?_ (by assumption) ?_
          rotate_left 1
          · (intro w hSw; (try dsimp only at hSw); go_simp; try (with_reducible rfl))
          (try simp only [Act.put, List.setIfInBounds_toArray, List.set_cons_zero, List.set_cons_succ])
          refine wpAnyH_ready (rs := [16]) (by kernel_rfl) (by simp) ?_
          refine (AllReadyH.cons (i := 16) (by simp only [List.getElem?_toArray, List.getElem?_cons_succ, List.getElem?_cons_zero]; rfl) (fun K hK => ?_) AllReadyH.nil)
          go_simp
          go_wp2_with fail
          refine hK.out _ _ ?_ (fun hHeld => ?_)
          · ((try dsimp only); first | exact ⟨hx1, hc0, hc1⟩ | exact ⟨m1, k0, k1⟩ | exact ⟨(World.cell?_alloc_lt _ _ _ (by simp only; omega)).trans m1, (World.cell?_alloc_lt _ _ _ (by simp only; omega)).trans k0, (World.cell?_alloc_lt _ _ _ (by simp only; omega)).trans k1⟩ | exact ⟨(World.cell?_setCell_far _ _ _ _ (by simp only; omega)).trans ((World.cell?_setCell_far _ _ _ _ (by simp only; omega)).trans (m1)), (World.cell?_setCell_far _ _ _ _ (by simp only; omega)).trans ((World.cell?_setCell_far _ _ _ _ (by simp only; omega)).trans (k0)), (World.cell?_setCell_far _ _ _ _ (by simp only; omega)).trans ((World.cell?_setCell_far _ _ _ _ (by simp only; omega)).trans (k1))⟩ | (simp [go_sem, *]; done))
          clear hK K
          (try simp only [Act.put, List.setIfInBounds_toArray, List.set_cons_zero, List.set_cons_succ])
          refine wpAnyH_done (by kernel_rfl) ?_ _
          have hW5 : Chg (fun b => b = (wr.heap.size + 1)) w3 ((w3.setCell ⟨(wr.heap.size + 1), 0, none⟩ (.int .i64 s)).setCell ⟨(wr.heap.size + 1), 1, none⟩ (.slice (some ⟨g5, 0, none⟩) x.length c5)) := Chg.setCell_ (S := fun b => b = (wr.heap.size + 1)) (Chg.setCell_ (S := fun b => b = (wr.heap.size + 1)) (Chg.refl _ _) (p := ⟨(wr.heap.size + 1), 0, none⟩) rfl _) (p := ⟨(wr.heap.size + 1), 1, none⟩) rfl _
          have hgne : g5 ≠ (wr.heap.size + 1) := by have := HG5n.out; (first | omega | (simp at this; omega))
          have f0 : ((w3.setCell ⟨(wr.heap.size + 1), 0, none⟩ (.int .i64 s)).setCell ⟨(wr.heap.size + 1), 1, none⟩ (.slice (some ⟨g5, 0, none⟩) x.length c5)).cell? ⟨(wr.heap.size + 1), 0, none⟩ = some (.int .i64 s) := by rw [World.cell?_setCell_other _ _ _ _ (fun e => by injection e with _ e2; omega)]; exact World.cell?_setCell_same _ _ _ xb0
          have f1 : ((w3.setCell ⟨(wr.heap.size + 1), 0, none⟩ (.int .i64 s)).setCell ⟨(wr.heap.size + 1), 1, none⟩ (.slice (some ⟨g5, 0, none⟩) x.length c5)).cell? ⟨(wr.heap.size + 1), 1, none⟩ = some (.slice (some ⟨g5, 0, none⟩) x.length c5) := World.cell?_setCell_same (u := .slice none 0 0) _ _ _ (by rw [World.cell?_setCell_other _ _ _ _ (fun e => by injection e with _ e2; omega)]; exact xb1)
          have HB5 := Lib.hid (HB3.out.trans (hW5.below (by omega) (fun k hk => by omega)))
          have R5 := Lib.hid (R3.out.frame hW5 (fun b h1 h2 => hgne (h1.symm.trans h2)))
          have hs5 := hW5.size
          have HF0 := Lib.hid f0
          have HF1 := Lib.hid f1
          have HS5 := Lib.hid hs5
          clear f0 f1 hW5 hs5 hgne xb0 xb1 xf0 xf1
          generalize ((w3.setCell ⟨(wr.heap.size + 1), 0, none⟩ (.int .i64 s)).setCell ⟨(wr.heap.size + 1), 1, none⟩ (.slice (some ⟨g5, 0, none⟩) x.length c5)) = w5 at *
          have f0 := HF0.out
          have f1 := HF1.out
          have hs5 := HS5.out
          have x0 := (HB5.out.cell (p := ⟨w.heap.size + 1, 0, none⟩) (by simp only; omega)).trans r0
          have x1 := (HB5.out.cell (p := ⟨w.heap.size + 1, 1, none⟩) (by simp only; omega)).trans r1
          have a1 := (HB5.out.cell (p := ⟨w.heap.size, 1, none⟩) (by simp only; omega)).trans hx1
          have p0 := (HB5.out.cell (p := ⟨w.heap.size + 2, 0, none⟩) (by simp only; omega)).trans ob0
          have p1 := (HB5.out.cell (p := ⟨w.heap.size + 2, 1, none⟩) (by simp only; omega)).trans ob1
          have y0 := (HB5.out.frozen (p := ⟨w.heap.size + 1, 0, none⟩) (by simp only; omega)).trans z0
          have y1 := (HB5.out.frozen (p := ⟨w.heap.size + 1, 1, none⟩) (by simp only; omega)).trans z1
          have y2 := (HB5.out.frozen (p := ⟨w.heap.size + 2, 1, none⟩) (by simp only; omega)).trans zo
          have hal : Below w5.heap.size w5 (w5.alloc (.cells #[.int .i64 s, .slice (some ⟨g5, 0, none⟩) x.length c5] 75)) := Below.alloc (Below.refl _ _) (Nat.le_refl _) _
          have HBW : Hid (Below wr.heap.size wr (w5.alloc (.cells #[.int .i64 s, .slice (some ⟨g5, 0, none⟩) x.length c5] 75))) := Lib.hid (HB5.out.trans (hal.mono (by omega)))
          have HBK : Hid ((w5.alloc (.cells #[.int .i64 s, .slice (some ⟨g5, 0, none⟩) x.length c5] 75)).heap[w5.heap.size]? = some (.cells #[.int .i64 s, .slice (some ⟨g5, 0, none⟩) x.length c5] 75)) := Lib.hid (World.heap_new _ _ _ rfl)
          have HBA : Hid (w.heap.size + 3 ≤ (w5.alloc (.cells #[.int .i64 s, .slice (some ⟨g5, 0, none⟩) x.length c5] 75)).heap.size) := Lib.hid (by simp; omega)
          have HFC : Hid (EN true (w5.alloc (.cells #[.int .i64 s, .slice (some ⟨g5, 0, none⟩) x.length c5] 75)) (fun b => b = g5) w5.heap.size 0 (s, x)) := Lib.hid (by
            have e0 := block_cell HBK.out 0
            have e1 := block_cell HBK.out 1
            exact ⟨e0.1, fun _ => e0.2, _, _, e1.1, fun _ => e1.2, R5.out.below hal⟩)
          have HFF : Hid (∀ b, b = g5 → (fun b => w.heap.size + 3 ≤ b) b ∧ b < (w5.alloc (.cells #[.int .i64 s, .slice (some ⟨g5, 0, none⟩) x.length c5] 75)).heap.size ∧ Off A' b ∧ wr.heap.size ≤ b) := Lib.hid (by
            rintro b rfl
            refine ⟨by show w.heap.size + 3 ≤ b; omega, by simp; omega, fun a' ha' => ?_, by omega⟩
            have := HAL.out a' ha'
            omega)
          have q1 := Lib.hid ((hal.cell (p := ⟨w.heap.size + 1, 0, none⟩) (by simp only; omega)).trans x0)
          have q2 := Lib.hid ((hal.cell (p := ⟨w.heap.size + 1, 1, none⟩) (by simp only; omega)).trans x1)
          have q3 := Lib.hid ((hal.cell (p := ⟨w.heap.size, 1, none⟩) (by simp only; omega)).trans a1)
          have q4 := Lib.hid ((hal.cell (p := ⟨w.heap.size + 2, 0, none⟩) (by simp only; omega)).trans p0)
          have q5_ := Lib.hid ((hal.cell (p := ⟨w.heap.size + 2, 1, none⟩) (by simp only; omega)).trans p1)
          have q6 := Lib.hid ((hal.frozen (p := ⟨w.heap.size + 1, 0, none⟩) (by simp only; omega)).trans y0)
          have q7 := Lib.hid ((hal.frozen (p := ⟨w.heap.size + 1, 1, none⟩) (by simp only; omega)).trans y1)
          have q8 := Lib.hid ((hal.frozen (p := ⟨w.heap.size + 2, 1, none⟩) (by simp only; omega)).trans y2)
          have HN5 := Lib.hid (show w.heap.size + 3 ≤ w5.heap.size by omega)
          clear hal hx1 hc0 hc1
          go_wp2_with (at_builtin; refine wpList_appS (R := EN true) (u := true) (w0 := wr) (xs := q) (y := (s, x)) (Fn := fun b => b = g5) (T := (fun b => w.heap.size + 3 ≤ b)) (gb := w5.heap.size) rfl EN.mov (.tmp 32) (.tmp 34) 26 rfl 75 i0 (.agg #[.int .i64 0, .slice none 0 0]) 32 Try.underlying26 hI0 hz0 hz1 hz2 (by simp [Value.cells]) (by decide) rfl HO.out HBW.out #[.int .i64 s, .slice (some ⟨g5, 0, none⟩) x.length c5] 75 HBK.out rfl (by simp [Value.oneCell']) rfl HFC.out (fun b hb => ⟨(HFF.out b hb).1, (HFF.out b hb).2.1, (HFF.out b hb).2.2.1, fun _ => (HFF.out b hb).2.2.2⟩) hqi (by decide) HBA.out ?_)
          intro g4 c4 w4 q4' HQ4 HO4 HG4 HC4 HB4
          have hn5 := HN5.out
          have bel : ∀ p : Addr, p.block < w.heap.size + 3 → w4.cell? p = (w5.alloc (.cells #[.int .i64 s, .slice (some ⟨g5, 0, none⟩) x.length c5] 75)).cell? p ∧ w4.frozen? p = (w5.alloc (.cells #[.int .i64 s, .slice (some ⟨g5, 0, none⟩) x.length c5] 75)).frozen? p := fun p hp => ⟨HB4.out.cell hp, HB4.out.frozen hp⟩
          have t0 := (bel ⟨w.heap.size + 1, 0, none⟩ (by simp only; omega)).1.trans q1.out
          have t1 := (bel ⟨w.heap.size + 1, 1, none⟩ (by simp only; omega)).1.trans q2.out
          have t2 := (bel ⟨w.heap.size, 1, none⟩ (by simp only; omega)).1.trans q3.out
          have t3 := (bel ⟨w.heap.size + 2, 0, none⟩ (by simp only; omega)).1.trans q4.out
          have t4 := (bel ⟨w.heap.size + 2, 1, none⟩ (by simp only; omega)).1.trans q5_.out
          have v0 := (bel ⟨w.heap.size + 1, 0, none⟩ (by simp only; omega)).2.trans q6.out
          have v1 := (bel ⟨w.heap.size + 1, 1, none⟩ (by simp only; omega)).2.trans q7.out
          have v2 := (bel ⟨w.heap.size + 2, 1, none⟩ (by simp only; omega)).2.trans q8.out
          have HB6 := Lib.hid ((HB.out.trans (HBW.out.mono (by omega))).trans (HB4.out.mono (by omega)))
          have hge4 := HO4.out.ge
          have hlt4 := HO4.out.lt
          have HT0 := Lib.hid t0
          have HT1 := Lib.hid t1
          have HT2 := Lib.hid t2
          have HT3 := Lib.hid t3
          have HV0 := Lib.hid v0
          have HV1 := Lib.hid v1
          clear bel t0 t1 t2 t3 v0 v1 q1 q2 q3 q4 q5_ q6 q7 q8 f0 f1 x0 x1 a1 p0 p1 y0 y1 y2
          go_wp2
          go_roundw
          case rel =>
            have hfin : Chg (fun b => b = w.heap.size + 2) w4 (w4.setCell ⟨w.heap.size + 2, 1, none⟩ (.slice (some ⟨g4, 0, none⟩) q4'.length c4)) := Chg.setCell_ (S := fun b => b = w.heap.size + 2) (Chg.refl _ _) (p := ⟨w.heap.size + 2, 1, none⟩) rfl _
            refine ⟨i + 1, some ⟨g4, 0, none⟩, c4, q4', by omega, by go_num, Lib.hid (by rw [HQ4.out, HQ.out, HTK.out]), Lib.hid (HB6.out.trans (hfin.below (by omega) (fun k hk => by omega))), Lib.hid (OwS.frame (R := EN true) EN.framed HO4.out hfin (fun b hb h2 => by omega) (fun a' ha' h2 => by injection ha' with ha'; subst ha'; simp only at h2; omega)), by simp [World.setCell]; omega, ?_, ?_, ?_, ?_, ?_, ?_, ?_, ?_⟩
            · exact (hfin.cell (p := ⟨w.heap.size, 1, none⟩) (by simp only; omega) (by simp only; omega)).trans HT2.out
            · exact (hfin.cell (p := ⟨w.heap.size + 1, 0, none⟩) (by simp only; omega) (by simp only; omega)).trans HT0.out
            · exact (hfin.cell (p := ⟨w.heap.size + 1, 1, none⟩) (by simp only; omega) (by simp only; omega)).trans HT1.out
            · rw [World.cell?_setCell_other _ _ _ _ (fun e => by injection e with _ e2; omega)]; exact HT3.out
            · exact World.cell?_setCell_same _ _ _ t4
            · exact (World.frozen?_setCell _ _ _ _).trans HV0.out
            · exact (World.frozen?_setCell _ _ _ _).trans HV1.out
            · exact (World.frozen?_setCell _ _ _ _).trans v2
          case measure => simp [intOf]; omega
      · go_simp
        go_wp2_with fail
        refine hK.out _ _ ?_ (fun hHeld => ?_)
        · ((try dsimp only); first | exact ⟨hx1, hc0, hc1⟩ | exact ⟨m1, k0, k1⟩ | exact ⟨(World.cell?_alloc_lt _ _ _ (by simp only; omega)).trans m1, (World.cell?_alloc_lt _ _ _ (by simp only; omega)).trans k0, (World.cell?_alloc_lt _ _ _ (by simp only; omega)).trans k1⟩ | exact ⟨(World.cell?_setCell_far _ _ _ _ (by simp only; omega)).trans ((World.cell?_setCell_far _ _ _ _ (by simp only; omega)).trans (m1)), (World.cell?_setCell_far _ _ _ _ (by simp only; omega)).trans ((World.cell?_setCell_far _ _ _ _ (by simp only; omega)).trans (k0)), (World.cell?_setCell_far _ _ _ _ (by simp only; omega)).trans ((World.cell?_setCell_far _ _ _ _ (by simp only; omega)).trans (k1))⟩ | (simp [go_sem, *]; done))
        clear hK K
        (try simp only [Act.put, List.setIfInBounds_toArray, List.set_cons_zero, List.set_cons_succ])
        refine wpAnyH_ready (rs := [6]) (by kernel_rfl) (by simp) ?_
        refine (AllReadyH.cons (i := 6) (by simp only [List.getElem?_toArray, List.getElem?_cons_succ, List.getElem?_cons_zero]; rfl) (fun K hK => ?_) AllReadyH.nil)
        go_simp
        go_wp2_with fail
        refine hK.out _ _ ?_ (fun hHeld => ?_)
        · ((try dsimp only); first | exact ⟨hx1, hc0, hc1⟩ | exact ⟨m1, k0, k1⟩ | exact ⟨(World.cell?_alloc_lt _ _ _ (by simp only; omega)).trans m1, (World.cell?_alloc_lt _ _ _ (by simp only; omega)).trans k0, (World.cell?_alloc_lt _ _ _ (by simp only; omega)).trans k1⟩ | exact ⟨(World.cell?_setCell_far _ _ _ _ (by simp only; omega)).trans ((World.cell?_setCell_far _ _ _ _ (by simp only; omega)).trans (m1)), (World.cell?_setCell_far _ _ _ _ (by simp only; omega)).trans ((World.cell?_setCell_far _ _ _ _ (by simp only; omega)).trans (k0)), (World.cell?_setCell_far _ _ _ _ (by simp only; omega)).trans ((World.cell?_setCell_far _ _ _ _ (by simp only; omega)).trans (k1))⟩ | (simp [go_sem, *]; done))
        clear hK K
        (try simp only [Act.put, List.setIfInBounds_toArray, List.set_cons_zero, List.set_cons_succ])
        refine wpAnyH_ready (rs := [13]) (by kernel_rfl) (by simp) ?_
        refine (AllReadyH.cons (i := 13) (by simp only [List.getElem?_toArray, List.getElem?_cons_succ, List.getElem?_cons_zero]; rfl) (fun K hK => ?_) AllReadyH.nil)
        (refine step_appR rfl (.tmp 22) (.tmp 28) 38 rfl 5 j0 (.int .u8 0) 1 Try.underlying38 hj hy0 hy1 hy2 rfl wr.heap.size _ _ _ rfl (OwR.new (f := Value.int .u8) (by first | exact Nat.le_refl _ | omega | (simp; done) | (simp; omega)) (by first | exact World.heap_new _ _ _ rfl | (refine World.heap_new _ _ _ ?_; simp; done) | (refine ((Below.alloc (Below.refl _ _) (Nat.le_refl _) _).block _ ?_).trans (World.heap_new _ _ _ rfl); exact Nat.lt_succ_self _) | (refine ((Below.alloc (Below.refl _ _) (Nat.le_refl _) _).block _ ?_).trans (World.heap_new _ _ _ rfl); simp))) _ x _ (fun _ _ => rfl) rfl ((R1.out.below (by repeat (first | (with_reducible exact Below.refl _ _) | (with_reducible refine Below.ext ?_ (by go_size) _ _) | (with_reducible refine Below.alloc ?_ (by go_size) _) | (with_reducible refine Below.setCell ?_ (by go_size) _) | (with_reducible refine Below.drew ?_) | (with_reducible refine Below.drewN_ ?_ _)))).rwF) (by first | omega | (simp; done) | (simp; omega)) (by decide) (by first | omega | (simp; done) | (simp; omega)) ?_)
        intro g5 c5 w3 q5 HQ5 HO5 HG5 HC5
        obtain rfl : x = q5 := by simpa using HQ5.out.symm
        have hb3 : Below wr.heap.size wr w3 := Below.trans (by repeat (first | (with_reducible exact Below.refl _ _) | (with_reducible refine Below.ext ?_ (by go_size) _ _) | (with_reducible refine Below.alloc ?_ (by go_size) _) | (with_reducible refine Below.setCell ?_ (by go_size) _) | (with_reducible refine Below.drew ?_) | (with_reducible refine Below.drewN_ ?_ _))) (HC5.out.below (by simp; try omega) (fun k hk => by subst hk; (first | exact Nat.le_refl _ | (simp; done) | (simp; omega) | omega)))
        have hs3 := hb3.size
        have hc5s := HC5.out.size
        try simp at hc5s
        have hg5l := HO5.out.lt
        have hg5e : wr.heap.size ≤ g5 := HO5.out.ge
        have HG5n := Lib.hid HG5.out
        have HB3 := Lib.hid hb3
        have R3 := Lib.hid HO5.out.rwF.rw
        have m1 := (hb3.cell (p := ⟨w.heap.size, 1, none⟩) (by simp only; omega)).trans hx1
        have k0 := (hb3.cell (p := ⟨g, o + i * 2, none⟩) hgw).trans hc0
        have k1 := (hb3.cell (p := ⟨g, o + i * 2 + 1, none⟩) hgw).trans hc1
        have xb0 := (HC5.out.cell (p := ⟨wr.heap.size, 0, none⟩) (by first | (simp; done) | (simp; omega) | omega) (by first | (simp; done) | (simp; omega) | omega)).trans (show _ = some (.int .i64 0) by simp [go_sem])
        have xf0 := (HC5.out.frozen (p := ⟨wr.heap.size, 0, none⟩) (by first | (simp; done) | (simp; omega) | omega) (by first | (simp; done) | (simp; omega) | omega)).trans (show _ = false by simp [go_sem])
        have xb1 := (HC5.out.cell (p := ⟨wr.heap.size, 1, none⟩) (by first | (simp; done) | (simp; omega) | omega) (by first | (simp; done) | (simp; omega) | omega)).trans (show _ = some (.slice none 0 0) by simp [go_sem])
        have xf1 := (HC5.out.frozen (p := ⟨wr.heap.size, 1, none⟩) (by first | (simp; done) | (simp; omega) | omega) (by first | (simp; done) | (simp; omega) | omega)).trans (show _ = false by simp [go_sem])
        clear HQ5 HO5 HG5 HC5 hb3
        go_wp2_with fail
        refine hK.out _ _ ?_ (fun hHeld => ?_)
        · ((try dsimp only); first | exact ⟨hx1, hc0, hc1⟩ | exact ⟨m1, k0, k1⟩ | exact ⟨(World.cell?_alloc_lt _ _ _ (by simp only; omega)).trans m1, (World.cell?_alloc_lt _ _ _ (by simp only; omega)).trans k0, (World.cell?_alloc_lt _ _ _ (by simp only; omega)).trans k1⟩ | exact ⟨(World.cell?_setCell_far _ _ _ _ (by simp only; omega)).trans ((World.cell?_setCell_far _ _ _ _ (by simp only; omega)).trans (m1)), (World.cell?_setCell_far _ _ _ _ (by simp only; omega)).trans ((World.cell?_setCell_far _ _ _ _ (by simp only; omega)).trans (k0)), (World.cell?_setCell_far _ _ _ _ (by simp only; omega)).trans ((World.cell?_setCell_far _ _ _ _ (by simp only; omega)).trans (k1))⟩ | (simp [go_sem, *]; done))
        clear hK K
        (try simp only [Act.put, List.setIfInBounds_toArray, List.set_cons_zero, List.set_cons_succ])
        refine wpAnyH_takeW (i := 14) (d := some 30) (v := ?_) (by simp only [List.getElem?_toArray, List.getElem?_cons_succ, List.getElem?_cons_zero]; rfl) (by rfl) (by kernel_rfl) (by kernel_rfl) (by kernel_rfl) (by intro _ _ _ h; exact h) (by rfl) ?_ (by assumption) ?_
        rotate_left 1
        · (intro w hSw; (try dsimp only at hSw); go_simp; try (with_reducible rfl))
        (try simp only [Act.put, List.setIfInBounds_toArray, List.set_cons_zero, List.set_cons_succ])
        refine wpAnyH_ready (rs := [16]) (by kernel_rfl) (by simp) ?_
        refine (AllReadyH.cons (i := 16) (by simp only [List.getElem?_toArray, List.getElem?_cons_succ, List.getElem?_cons_zero]; rfl) (fun K hK => ?_) AllReadyH.nil)
        go_simp
        go_wp2_with fail
        refine hK.out _ _ ?_ (fun hHeld => ?_)
        · ((try dsimp only); first | exact ⟨hx1, hc0, hc1⟩ | exact ⟨m1, k0, k1⟩ | exact ⟨(World.cell?_alloc_lt _ _ _ (by simp only; omega)).trans m1, (World.cell?_alloc_lt _ _ _ (by simp only; omega)).trans k0, (World.cell?_alloc_lt _ _ _ (by simp only; omega)).trans k1⟩ | exact ⟨(World.cell?_setCell_far _ _ _ _ (by simp only; omega)).trans ((World.cell?_setCell_far _ _ _ _ (by simp only; omega)).trans (m1)), (World.cell?_setCell_far _ _ _ _ (by simp only; omega)).trans ((World.cell?_setCell_far _ _ _ _ (by simp only; omega)).trans (k0)), (World.cell?_setCell_far _ _ _ _ (by simp only; omega)).trans ((World.cell?_setCell_far _ _ _ _ (by simp only; omega)).trans (k1))⟩ | (simp [go_sem, *]; done))
        clear hK K
        (try simp only [Act.put, List.setIfInBounds_toArray, List.set_cons_zero, List.set_cons_succ])
        refine wpAnyH_done (by kernel_rfl) ?_ _
        have hW5 : Chg (fun b => b = wr.heap.size) w3 ((w3.setCell ⟨wr.heap.size, 0, none⟩ (.int .i64 s)).setCell ⟨wr.heap.size, 1, none⟩ (.slice (some ⟨g5, 0, none⟩) x.length c5)) := Chg.setCell_ (S := fun b => b = wr.heap.size) (Chg.setCell_ (S := fun b => b = wr.heap.size) (Chg.refl _ _) (p := ⟨wr.heap.size, 0, none⟩) rfl _) (p := ⟨wr.heap.size, 1, none⟩) rfl _
        have hgne : g5 ≠ wr.heap.size := by have := HG5n.out; (first | omega | (simp at this; omega))
        have f0 : ((w3.setCell ⟨wr.heap.size, 0, none⟩ (.int .i64 s)).setCell ⟨wr.heap.size, 1, none⟩ (.slice (some ⟨g5, 0, none⟩) x.length c5)).cell? ⟨wr.heap.size, 0, none⟩ = some (.int .i64 s) := by rw [World.cell?_setCell_other _ _ _ _ (fun e => by injection e with _ e2; omega)]; exact World.cell?_setCell_same _ _ _ xb0
        have f1 : ((w3.setCell ⟨wr.heap.size, 0, none⟩ (.int .i64 s)).setCell ⟨wr.heap.size, 1, none⟩ (.slice (some ⟨g5, 0, none⟩) x.length c5)).cell? ⟨wr.heap.size, 1, none⟩ = some (.slice (some ⟨g5, 0, none⟩) x.length c5) := World.cell?_setCell_same (u := .slice none 0 0) _ _ _ (by rw [World.cell?_setCell_other _ _ _ _ (fun e => by injection e with _ e2; omega)]; exact xb1)
        have HB5 := Lib.hid (HB3.out.trans (hW5.below (by omega) (fun k hk => by omega)))
        have R5 := Lib.hid (R3.out.frame hW5 (fun b h1 h2 => hgne (h1.symm.trans h2)))
        have hs5 := hW5.size
        have HF0 := Lib.hid f0
        have HF1 := Lib.hid f1
        have HS5 := Lib.hid hs5
        clear f0 f1 hW5 hs5 hgne xb0 xb1 xf0 xf1
        generalize ((w3.setCell ⟨wr.heap.size, 0, none⟩ (.int .i64 s)).setCell ⟨wr.heap.size, 1, none⟩ (.slice (some ⟨g5, 0, none⟩) x.length c5)) = w5 at *
        have f0 := HF0.out
        have f1 := HF1.out
        have hs5 := HS5.out
        have x0 := (HB5.out.cell (p := ⟨w.heap.size + 1, 0, none⟩) (by simp only; omega)).trans r0
        have x1 := (HB5.out.cell (p := ⟨w.heap.size + 1, 1, none⟩) (by simp only; omega)).trans r1
        have a1 := (HB5.out.cell (p := ⟨w.heap.size, 1, none⟩) (by simp only; omega)).trans hx1
        have p0 := (HB5.out.cell (p := ⟨w.heap.size + 2, 0, none⟩) (by simp only; omega)).trans ob0
        have p1 := (HB5.out.cell (p := ⟨w.heap.size + 2, 1, none⟩) (by simp only; omega)).trans ob1
        have y0 := (HB5.out.frozen (p := ⟨w.heap.size + 1, 0, none⟩) (by simp only; omega)).trans z0
        have y1 := (HB5.out.frozen (p := ⟨w.heap.size + 1, 1, none⟩) (by simp only; omega)).trans z1
        have y2 := (HB5.out.frozen (p := ⟨w.heap.size + 2, 1, none⟩) (by simp only; omega)).trans zo
        have hal : Below w5.heap.size w5 (w5.alloc (.cells #[.int .i64 s, .slice (some ⟨g5, 0, none⟩) x.length c5] 75)) := Below.alloc (Below.refl _ _) (Nat.le_refl _) _
        have HBW : Hid (Below wr.heap.size wr (w5.alloc (.cells #[.int .i64 s, .slice (some ⟨g5, 0, none⟩) x.length c5] 75))) := Lib.hid (HB5.out.trans (hal.mono (by omega)))
        have HBK : Hid ((w5.alloc (.cells #[.int .i64 s, .slice (some ⟨g5, 0, none⟩) x.length c5] 75)).heap[w5.heap.size]? = some (.cells #[.int .i64 s, .slice (some ⟨g5, 0, none⟩) x.length c5] 75)) := Lib.hid (World.heap_new _ _ _ rfl)
        have HBA : Hid (w.heap.size + 3 ≤ (w5.alloc (.cells #[.int .i64 s, .slice (some ⟨g5, 0, none⟩) x.length c5] 75)).heap.size) := Lib.hid (by simp; omega)
        have HFC : Hid (EN true (w5.alloc (.cells #[.int .i64 s, .slice (some ⟨g5, 0, none⟩) x.length c5] 75)) (fun b => b = g5) w5.heap.size 0 (s, x)) := Lib.hid (by
          have e0 := block_cell HBK.out 0
          have e1 := block_cell HBK.out 1
          exact ⟨e0.1, fun _ => e0.2, _, _, e1.1, fun _ => e1.2, R5.out.below hal⟩)
        have HFF : Hid (∀ b, b = g5 → (fun b => w.heap.size + 3 ≤ b) b ∧ b < (w5.alloc (.cells #[.int .i64 s, .slice (some ⟨g5, 0, none⟩) x.length c5] 75)).heap.size ∧ Off A' b ∧ wr.heap.size ≤ b) := Lib.hid (by
          rintro b rfl
          refine ⟨by show w.heap.size + 3 ≤ b; omega, by simp; omega, fun a' ha' => ?_, by omega⟩
          have := HAL.out a' ha'
          omega)
        have q1 := Lib.hid ((hal.cell (p := ⟨w.heap.size + 1, 0, none⟩) (by simp only; omega)).trans x0)
        have q2 := Lib.hid ((hal.cell (p := ⟨w.heap.size + 1, 1, none⟩) (by simp only; omega)).trans x1)
        have q3 := Lib.hid ((hal.cell (p := ⟨w.heap.size, 1, none⟩) (by simp only; omega)).trans a1)
        have q4 := Lib.hid ((hal.cell (p := ⟨w.heap.size + 2, 0, none⟩) (by simp only; omega)).trans p0)
        have q5_ := Lib.hid ((hal.cell (p := ⟨w.heap.size + 2, 1, none⟩) (by simp only; omega)).trans p1)
        have q6 := Lib.hid ((hal.frozen (p := ⟨w.heap.size + 1, 0, none⟩) (by simp only; omega)).trans y0)
        have q7 := Lib.hid ((hal.frozen (p := ⟨w.heap.size + 1, 1, none⟩) (by simp only; omega)).trans y1)
        have q8 := Lib.hid ((hal.frozen (p := ⟨w.heap.size + 2, 1, none⟩) (by simp only; omega)).trans y2)
        have HN5 := Lib.hid (show w.heap.size + 3 ≤ w5.heap.size by omega)
        clear hal hx1 hc0 hc1
        go_wp2_with (at_builtin; refine wpList_appS (R := EN true) (u := true) (w0 := wr) (xs := q) (y := (s, x)) (Fn := fun b => b = g5) (T := (fun b => w.heap.size + 3 ≤ b)) (gb := w5.heap.size) rfl EN.mov (.tmp 32) (.tmp 34) 26 rfl 75 i0 (.agg #[.int .i64 0, .slice none 0 0]) 32 Try.underlying26 hI0 hz0 hz1 hz2 (by simp [Value.cells]) (by decide) rfl HO.out HBW.out #[.int .i64 s, .slice (some ⟨g5, 0, none⟩) x.length c5] 75 HBK.out rfl (by simp [Value.oneCell']) rfl HFC.out (fun b hb => ⟨(HFF.out b hb).1, (HFF.out b hb).2.1, (HFF.out b hb).2.2.1, fun _ => (HFF.out b hb).2.2.2⟩) hqi (by decide) HBA.out ?_)
        intro g4 c4 w4 q4' HQ4 HO4 HG4 HC4 HB4
        have hn5 := HN5.out
        have bel : ∀ p : Addr, p.block < w.heap.size + 3 → w4.cell? p = (w5.alloc (.cells #[.int .i64 s, .slice (some ⟨g5, 0, none⟩) x.length c5] 75)).cell? p ∧ w4.frozen? p = (w5.alloc (.cells #[.int .i64 s, .slice (some ⟨g5, 0, none⟩) x.length c5] 75)).frozen? p := fun p hp => ⟨HB4.out.cell hp, HB4.out.frozen hp⟩
        have t0 := (bel ⟨w.heap.size + 1, 0, none⟩ (by simp only; omega)).1.trans q1.out
        have t1 := (bel ⟨w.heap.size + 1, 1, none⟩ (by simp only; omega)).1.trans q2.out
        have t2 := (bel ⟨w.heap.size, 1, none⟩ (by simp only; omega)).1.trans q3.out
        have t3 := (bel ⟨w.heap.size + 2, 0, none⟩ (by simp only; omega)).1.trans q4.out
        have t4 := (bel ⟨w.heap.size + 2, 1, none⟩ (by simp only; omega)).1.trans q5_.out
        have v0 := (bel ⟨w.heap.size + 1, 0, none⟩ (by simp only; omega)).2.trans q6.out
        have v1 := (bel ⟨w.heap.size + 1, 1, none⟩ (by simp only; omega)).2.trans q7.out
        have v2 := (bel ⟨w.heap.size + 2, 1, none⟩ (by simp only; omega)).2.trans q8.out
        have HB6 := Lib.hid ((HB.out.trans (HBW.out.mono (by omega))).trans (HB4.out.mono (by omega)))
        have hge4 := HO4.out.ge
        have hlt4 := HO4.out.lt
        have HT0 := Lib.hid t0
        have HT1 := Lib.hid t1
        have HT2 := Lib.hid t2
        have HT3 := Lib.hid t3
        have HV0 := Lib.hid v0
        have HV1 := Lib.hid v1
        clear bel t0 t1 t2 t3 v0 v1 q1 q2 q3 q4 q5_ q6 q7 q8 f0 f1 x0 x1 a1 p0 p1 y0 y1 y2
        go_wp2
        go_roundw
        case rel =>
          have hfin : Chg (fun b => b = w.heap.size + 2) w4 (w4.setCell ⟨w.heap.size + 2, 1, none⟩ (.slice (some ⟨g4, 0, none⟩) q4'.length c4)) := Chg.setCell_ (S := fun b => b = w.heap.size + 2) (Chg.refl _ _) (p := ⟨w.heap.size + 2, 1, none⟩) rfl _
          refine ⟨i + 1, some ⟨g4, 0, none⟩, c4, q4', by omega, by go_num, Lib.hid (by rw [HQ4.out, HQ.out, HTK.out]), Lib.hid (HB6.out.trans (hfin.below (by omega) (fun k hk => by omega))), Lib.hid (OwS.frame (R := EN true) EN.framed HO4.out hfin (fun b hb h2 => by omega) (fun a' ha' h2 => by injection ha' with ha'; subst ha'; simp only at h2; omega)), by simp [World.setCell]; omega, ?_, ?_, ?_, ?_, ?_, ?_, ?_, ?_⟩
          · exact (hfin.cell (p := ⟨w.heap.size, 1, none⟩) (by simp only; omega) (by simp only; omega)).trans HT2.out
          · exact (hfin.cell (p := ⟨w.heap.size + 1, 0, none⟩) (by simp only; omega) (by simp only; omega)).trans HT0.out
          · exact (hfin.cell (p := ⟨w.heap.size + 1, 1, none⟩) (by simp only; omega) (by simp only; omega)).trans HT1.out
          · rw [World.cell?_setCell_other _ _ _ _ (fun e => by injection e with _ e2; omega)]; exact HT3.out
          · exact World.cell?_setCell_same _ _ _ t4
          · exact (World.frozen?_setCell _ _ _ _).trans HV0.out
          · exact (World.frozen?_setCell _ _ _ _).trans HV1.out
          · exact (World.frozen?_setCell _ _ _ _).trans v2
        case measure => simp [intOf]; omega
    · obtain rfl : i = xs.length := by omega
      have hqe : xs = q := by rw [HQ.out, List.take_length]
      subst hqe
      have HS2 := Lib.hid HO.out.sl
      have hcap : xs.length ≤ c' := by
        obtain ⟨vs, F, h1, _⟩ := HO.out
        rcases h1.2 with ⟨h0, h00⟩ | ⟨g', cap', cur, hv, _, _, h3, _⟩
        · omega
        · injection hv with _ _ hc; omega
      have hfin : Chg (fun b => b = w.heap.size + 1) wr ((wr.setCell ⟨w.heap.size + 1, 0, none⟩ (.int .i64 st)).setCell ⟨w.heap.size + 1, 1, none⟩ (.slice A' xs.length c')) := Chg.setCell_ (S := fun b => b = w.heap.size + 1) (Chg.setCell_ (S := fun b => b = w.heap.size + 1) (Chg.refl _ _) (p := ⟨w.heap.size + 1, 0, none⟩) rfl _) (p := ⟨w.heap.size + 1, 1, none⟩) rfl _
      have hv0 : ((wr.setCell ⟨w.heap.size + 1, 0, none⟩ (.int .i64 st)).setCell ⟨w.heap.size + 1, 1, none⟩ (.slice A' xs.length c')).cell? ⟨w.heap.size + 1, 0, none⟩ = some (.int .i64 st) := by rw [World.cell?_setCell_other _ _ _ _ (fun e => by injection e with _ e2; omega)]; exact World.cell?_setCell_same _ _ _ r0
      have hv1 : ((wr.setCell ⟨w.heap.size + 1, 0, none⟩ (.int .i64 st)).setCell ⟨w.heap.size + 1, 1, none⟩ (.slice A' xs.length c')).cell? ⟨w.heap.size + 1, 1, none⟩ = some (.slice A' xs.length c') := World.cell?_setCell_same (u := .slice none 0 0) _ _ _ (by rw [World.cell?_setCell_other _ _ _ _ (fun e => by injection e with _ e2; omega)]; exact r1)
      have HF := Lib.hid hfin
      have HV0 := Lib.hid hv0
      have HV1 := Lib.hid hv1
      clear hfin hv0 hv1
      go_wp2
      refine bodyPost_ret (v := .agg #[.int .i64 st, .slice A' xs.length c']) (by simp [results, Try.results53, go_sem, HV0.out, HV1.out]) rfl ?_
      refine ⟨_, _, rfl, HB.out.trans (HF.out.below (by omega) (fun k hk => by omega)), hcap, ?_, HO.out.spare.frame HF.out (fun a ha h2 => by subst ha; obtain ⟨vs, F, h1, _⟩ := HO.out; have := own_ge h1 a.block rfl; omega), fun a ha => by subst ha; obtain ⟨vs, F, h1, _⟩ := HO.out; have := own_ge h1 a.block rfl; omega⟩
      refine (Sl.frame (R := EN true) EN.framed HS2.out HF.out (fun b hb h2 => by omega)).wider (fun b hb => ?_)
      have := HF.out.size
      omega

end Go.Proofs.Ytnfgdgmmbddmgaa
