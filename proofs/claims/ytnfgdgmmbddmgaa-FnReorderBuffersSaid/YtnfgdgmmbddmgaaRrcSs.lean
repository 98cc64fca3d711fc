/- ReceiveNumbered of the reference within the window, with the spare cells of what it returns. -/
import Derived.Test.YtnfgdgmmbddmgaaRrcSp
import Derived.Test.YtnfgdgmmbddmgaaRcpS
import Derived.Test.YtnfgdgmmbddmgaaRrelS
namespace Go.Proofs.Ytnfgdgmmbddmgaa
open Go.RowKit
set_option linter.unusedVariables false
set_option linter.unusedSimpArgs false

def CpMS (w : World) (r : Int × List NF × List (List Int)) (e : Ending) (w' : World) : Prop := ∃ A c gb cb T1 T2, e = .returned (.tuple #[.agg #[.int .i64 r.1, .slice A r.2.1.length c], .slice (some ⟨gb, 0, none⟩) r.2.2.length cb]) ∧ Below w.heap.size w w' ∧ r.2.1.length ≤ c ∧
  (∀ b, T1 b → w.heap.size ≤ b ∧ b < w'.heap.size ∧ ¬ T2 b) ∧ (∀ b, T2 b → w.heap.size ≤ b ∧ b < w'.heap.size) ∧ Sl true 2 (EN true) w' T1 A r.2.1 ∧ OwS true 1 (EB true) 38 w' T2 w.heap.size (some ⟨gb, 0, none⟩) cb r.2.2 ∧ T2 gb ∧ Spare w' 2 A c ∧ ∀ a, A = some a → w.heap.size ≤ a.block

set_option maxRecDepth 10000 in
set_option maxHeartbeats 32000000 in
theorem specRNS_small {T Tb : Nat → Prop} (st : Int) (A0 : Option Addr) (c0 : Nat) (xs : List NF) (q : Int) (B : Option Addr) (cb : Nat) (body : List Int) (w : World) (hx : Sl false 2 (EN false) w T A0 xs) (hm : xs.length ≤ 100000000) (hlx : ∀ x ∈ xs, x.2.length ≤ 1000000000)
    (hby : Rw false .u8 w Tb B body) (hbb : body.length ≤ 1000000000) (hgo : vROB st xs = true ∧ inR (seqD st q) 0 2047 = true ∧ body.length ≤ 100) (h16 : ¬ 16 ≤ seqD st q) :
    Calls Try.prog 22 #[.agg #[.int .i64 st, .slice A0 xs.length c0], .int .i64 q, .slice B body.length cb] w fun e w' => CpMS w (rcvS st q body xs) e w' := by
  have HX := Lib.hid hx
  have HLX := Lib.hid hlx
  have HBY := Lib.hid hby
  have hm9 : xs.length ≤ 1000000000 := by omega
  clear hx hlx hby
  have HGO := Lib.hid hgo
  clear hgo
  go_enter Try.func22, Try.ntmps22
  go_wp2_with fail
  refine (l22CopyS_any st A0 c0 xs _ (Sl.below (R := EN false) EN.framed HX.out (by repeat (first | (with_reducible exact Below.refl _ _) | (with_reducible refine Below.ext ?_ (by go_size) _ _) | (with_reducible refine Below.alloc ?_ (by go_size) _) | (with_reducible refine Below.setCell ?_ (by go_size) _) | (with_reducible refine Below.drew ?_) | (with_reducible refine Below.drewN_ ?_ _)))) hm9 HLX.out).mono ?_
  rintro e w1 ⟨A, c, rfl, hb, hcap, hin, hsp, hspb⟩
  have HSPN : Hid (∀ a, A = some a → w.heap.size + 2 ≤ a.block) := Lib.hid (fun a ha => by have := hspb a ha; simp at this; omega)
  have hs1 := hb.size
  have x0 := hb.cell (p := ⟨w.heap.size, 0, none⟩) (by simp; try omega)
  have x1 := hb.cell (p := ⟨w.heap.size, 1, none⟩) (by simp; try omega)
  have r0 := hb.cell (p := ⟨w.heap.size + 1, 0, none⟩) (by simp)
  have r1 := hb.cell (p := ⟨w.heap.size + 1, 1, none⟩) (by simp)
  have z0 := hb.frozen (p := ⟨w.heap.size + 1, 0, none⟩) (by simp)
  have z1 := hb.frozen (p := ⟨w.heap.size + 1, 1, none⟩) (by simp)
  simp [go_sem] at x0 x1 r0 r1 z0 z1 hs1
  have hB1 : Below w.heap.size w w1 := Below.trans (by repeat (first | (with_reducible exact Below.refl _ _) | (with_reducible refine Below.ext ?_ (by go_size) _ _) | (with_reducible refine Below.alloc ?_ (by go_size) _) | (with_reducible refine Below.setCell ?_ (by go_size) _) | (with_reducible refine Below.drew ?_) | (with_reducible refine Below.drewN_ ?_ _))) (hb.mono (by simp; try omega))
  have hin1 := hin.wider (T' := fun b => w.heap.size + 2 ≤ b ∧ b < w1.heap.size) (fun b hb => by simp at hb; omega)
  obtain ⟨nb, hnb⟩ : ∃ nb, nb = w1.heap.size := ⟨_, rfl⟩
  have hal : Below w1.heap.size w1 (w1.alloc (.cells #[.int .i64 st, .slice A xs.length c] 28)) := Below.alloc (Below.refl _ _) (Nat.le_refl _) _
  have HBB := Lib.hid (hB1.trans (hal.mono (by omega)))
  have HIB := Lib.hid (Sl.below (R := EN true) EN.framed hin1 hal)
  have HSPA := Lib.hid (hsp.below hal)
  have hl1 : w1.heap.size < (w1.alloc (.cells #[.int .i64 st, .slice A xs.length c] 28)).heap.size := by simp
  have N0 := Lib.hid (block_cell (World.heap_new w1 (.cells #[.int .i64 st, .slice A xs.length c] 28) _ rfl) 0).1
  have N1 := Lib.hid (block_cell (World.heap_new w1 (.cells #[.int .i64 st, .slice A xs.length c] 28) _ rfl) 1).1
  have N2 := Lib.hid (block_cell (World.heap_new w1 (.cells #[.int .i64 st, .slice A xs.length c] 28) _ rfl) 0).2
  have N3 := Lib.hid (block_cell (World.heap_new w1 (.cells #[.int .i64 st, .slice A xs.length c] 28) _ rfl) 1).2
  have XX0 := Lib.hid ((hal.cell (p := ⟨w.heap.size, 0, none⟩) (by simp only; omega)).trans x0)
  have XX1 := Lib.hid ((hal.cell (p := ⟨w.heap.size, 1, none⟩) (by simp only; omega)).trans x1)
  have RR0 := Lib.hid ((hal.cell (p := ⟨w.heap.size + 1, 0, none⟩) (by simp only; omega)).trans r0)
  have RR1 := Lib.hid ((hal.cell (p := ⟨w.heap.size + 1, 1, none⟩) (by simp only; omega)).trans r1)
  have ZZ0 := Lib.hid ((hal.frozen (p := ⟨w.heap.size + 1, 0, none⟩) (by simp only; omega)).trans z0)
  have ZZ1 := Lib.hid ((hal.frozen (p := ⟨w.heap.size + 1, 1, none⟩) (by simp only; omega)).trans z1)
  have hb2w : w.heap.size < w1.heap.size := by omega
  clear hspb hsp hb hin hin1 hB1 hal r0 r1 z0 z1
  go_wp2_with (go_at_call 51; refine (specDist_any st q _).mono ?_; rintro e w' ⟨rfl, rfl⟩)
  refine (specVR_any st A0 c0 xs _ (Sl.below (R := EN false) EN.framed HX.out HBB.out) hm9 HLX.out).mono ?_
  rintro e w2 ⟨rfl, hb⟩
  have hs2 := hb.size
  simp only [World.size_alloc] at hs2
  have HB2 := Lib.hid (HBB.out.trans (hb.mono (by simp; omega)))
  have HI2 := Lib.hid (Sl.below (R := EN true) EN.framed HIB.out hb)
  have HSP2 := Lib.hid (HSPA.out.below hb)
  have n0 := (hb.cell (p := ⟨w1.heap.size, 0, none⟩) hl1).trans N0.out
  have n1 := (hb.cell (p := ⟨w1.heap.size, 1, none⟩) hl1).trans N1.out
  have n2 := (hb.frozen (p := ⟨w1.heap.size, 0, none⟩) hl1).trans N2.out
  have n3 := (hb.frozen (p := ⟨w1.heap.size, 1, none⟩) hl1).trans N3.out
  have x0 := (hb.cell (p := ⟨w.heap.size, 0, none⟩) (by simp; omega)).trans XX0.out
  have x1 := (hb.cell (p := ⟨w.heap.size, 1, none⟩) (by simp; omega)).trans XX1.out
  have r0 := (hb.cell (p := ⟨w.heap.size + 1, 0, none⟩) (by simp; omega)).trans RR0.out
  have r1 := (hb.cell (p := ⟨w.heap.size + 1, 1, none⟩) (by simp; omega)).trans RR1.out
  have z0 := (hb.frozen (p := ⟨w.heap.size + 1, 0, none⟩) (by simp; omega)).trans ZZ0.out
  have z1 := (hb.frozen (p := ⟨w.heap.size + 1, 1, none⟩) (by simp; omega)).trans ZZ1.out
  clear hb HIB HBB N0 N1 N2 N3 XX0 XX1 RR0 RR1 ZZ0 ZZ1 hl1
  rw [← hnb] at n0 n1 n2 n3 HI2 ⊢
  have n0' : w2.cell? ⟨nb, 0, none⟩ = some (.int .i64 st) := n0
  have n1' : w2.cell? ⟨nb, 1, none⟩ = some (.slice A xs.length c) := n1
  have n2' : w2.frozen? ⟨nb, 0, none⟩ = false := n2
  have n3' : w2.frozen? ⟨nb, 1, none⟩ = false := n3
  clear n0 n1 n2 n3
  have hnw : w.heap.size + 2 ≤ nb := by omega
  have hnw2 : nb < w2.heap.size := by omega
  clear hnb hs1 hs2 hb2w
  obtain ⟨bv, hbv⟩ : ∃ b, b = vROB st xs := ⟨_, rfl⟩
  rw [← hbv]
  have HV := Lib.hid hbv
  clear hbv
  obtain rfl : bv = true := HV.out.trans HGO.out.1
  have HD : Hid (inR (seqD st q) 0 2047 = true) := Lib.hid HGO.out.2.1
  have hbl : ¬ 100 < body.length := by have := HGO.out.2.2; omega
  have hbl2 : ¬ (100 : Int) < (body.length : Int) := by omega
  have HG : Hid (vROB st xs = true ∧ inR (seqD st q) 0 2047 = true ∧ body.length ≤ 100) := HGO
  have hq4 : 0 ≤ q ∧ q ≤ 4095 := by have h1 := inR_true HD.out; have h2 := seqD_pos h1.1; omega
  have HRN : Hid (insS st (q, body) xs = none → rcvS st q body xs = (st, xs, [])) := Lib.hid (fun h => by unfold rcvS; rw [if_pos HG.out, if_neg (show ¬ 16 ≤ seqD st q by omega), h])
  have HRS : Hid (∀ zs, insS st (q, body) xs = some zs → rcvS st q body xs = relR st zs []) := Lib.hid (fun zs h => by unfold rcvS; rw [if_pos HG.out, if_neg (show ¬ 16 ≤ seqD st q by omega), h])
  go_wp2_with (go_at_call 54; refine (l1In_any _ _ _ _).mono ?_; rw [HD.out]; rintro e w' ⟨rfl, rfl⟩)
  obtain ⟨w7, hw7⟩ : ∃ w7, w7 = w2.alloc (.cells #[] 38) := ⟨_, rfl⟩
  rw [← hw7]
  have hal : Below w2.heap.size w2 w7 := by rw [hw7]; exact Below.alloc (Below.refl _ _) (Nat.le_refl _) _
  have hs7 : w2.heap.size < w7.heap.size := by rw [hw7]; simp
  have HNR : Hid (w7.heap[w2.heap.size]? = some (.cells #[] 38)) := Lib.hid (by rw [hw7]; exact World.heap_new _ _ _ rfl)
  have HB7 := Lib.hid (HB2.out.trans (hal.mono HB2.out.size))
  have HI7 := Lib.hid (Sl.below (R := EN true) EN.framed HI2.out hal)
  have HSP7 := Lib.hid (HSP2.out.below hal)
  have k0 := (hal.cell (p := ⟨nb, 0, none⟩) (by simp only; omega)).trans n0'
  have k1 := (hal.cell (p := ⟨nb, 1, none⟩) (by simp only; omega)).trans n1'
  have k2 := (hal.frozen (p := ⟨nb, 0, none⟩) (by simp only; omega)).trans n2'
  have k3 := (hal.frozen (p := ⟨nb, 1, none⟩) (by simp only; omega)).trans n3'
  replace r0 := (hal.cell (p := ⟨w.heap.size + 1, 0, none⟩) (by simp only; omega)).trans r0
  replace r1 := (hal.cell (p := ⟨w.heap.size + 1, 1, none⟩) (by simp only; omega)).trans r1
  replace z0 := (hal.frozen (p := ⟨w.heap.size + 1, 0, none⟩) (by simp only; omega)).trans z0
  replace z1 := (hal.frozen (p := ⟨w.heap.size + 1, 1, none⟩) (by simp only; omega)).trans z1
  clear hal hw7 n0' n1' n2' n3' HB2 HI2 x0 x1
  have HB8 := HB7
  have HS8 := HI7
  have HO8 : Hid (OwS true 1 (EB true) 38 w7 (fun _ => False) (w.heap.size + 2) (some ⟨w2.heap.size, 0, none⟩) 0 []) := Lib.hid (OwS.new (by omega) HNR.out)
  have HD1 : Hid (∀ b, (fun b => w.heap.size + 2 ≤ b ∧ b < nb) b → w.heap.size + 2 ≤ b ∧ b < w7.heap.size ∧ b ≠ nb ∧ b ≠ w2.heap.size ∧ ¬ (fun _ => False) b) := Lib.hid (fun b h => ⟨h.1, by omega, by omega, by omega, fun h => h⟩)
  have HD2 : Hid (∀ b, (fun _ : Nat => False) b → w.heap.size + 2 ≤ b ∧ b < w7.heap.size ∧ b ≠ nb) := Lib.hid (fun b h => h.elim)
  have HL8 : Hid (xs.length ≤ 100000000) := Lib.hid hm
  have HLB : Hid (([] : List (List Int)).length ≤ 100000000) := Lib.hid (by simp)
  have hgbn : ¬ w2.heap.size = nb := by omega
  have hcap8 := hcap
  clear HB7 HI7 HNR
  go_wp2
  go_loopw [11] (fun v wr => ∃ k : Nat, k ≤ xs.length ∧ v = .int .i64 (k : Int) ∧ Hid (Dr w7 wr) ∧ Hid (∀ j x, j < k → xs[j]? = some x → seqD st x.1 < seqD st (q, body).1)) (fun v _ => xs.length - (intOf v).toNat)
  case atStart => exact ⟨0, Nat.zero_le _, rfl, Lib.hid (Dr.refl _), Lib.hid (fun j x hj => absurd hj (by omega))⟩
  case round =>
    obtain ⟨k, hk, rfl, HDr, HK⟩ := hrel
    have c0' := (HDr.out.cell ⟨nb, 0, none⟩).trans k0
    have c1' := (HDr.out.cell ⟨nb, 1, none⟩).trans k1
    by_cases hlt : k < xs.length
    · obtain ⟨g1, o1, F1, hAe, hg1, ⟨e0, _, _⟩, _, _⟩ := HS8.out.at_ k hlt
      replace e0 := (HDr.out.cell ⟨g1, o1 + k * 2, none⟩).trans e0
      have HAE := Lib.hid hAe
      rw [hAe] at c1'
      have hx0 : xs[k]? = some xs[k] := List.getElem?_eq_getElem hlt
      have hlt2 : (k : Int) < (xs.length : Int) := by omega
      generalize xs[k] = x at *
      obtain ⟨x1, x2⟩ := x
      simp only at e0
      have HXK := Lib.hid hx0
      clear hx0 hAe
      by_cases hc : seqD st x1 < seqD st q
      · have hc2 : seqD st x1 < seqD st q := hc
        go_wp2
        refine wp_region_held_drew (S := (fun w' => w'.cell? ⟨nb, 0, none⟩ = some (.int .i64 st) ∧ w'.cell? ⟨nb, 1, none⟩ = some (.slice (some ⟨g1, o1, none⟩) xs.length c) ∧ w'.cell? ⟨g1, o1 + k * 2, none⟩ = some (.int .i64 x1))) (by kernel_rfl) ?_ (fun hHeld => ?_)
        · first | exact ⟨c0', c1', e0⟩ | (simp [go_sem, *]; done)
        refine wpAnyH_takeW (i := 0) (d := some 46) (v := ?_) (by simp only [List.getElem?_toArray, List.getElem?_cons_succ, List.getElem?_cons_zero]; rfl) (by rfl) (by kernel_rfl) (by kernel_rfl) (by kernel_rfl) (by intro _ _ _ h; exact h) (by rfl) ?_ (by assumption) ?_
        rotate_left 1
        · (intro w hSw; (try dsimp only at hSw); go_simp; try (with_reducible rfl))
        (try simp only [Act.put, List.setIfInBounds_toArray, List.set_cons_zero, List.set_cons_succ])
        refine wpAnyH_takeW (i := 1) (d := some 47) (v := ?_) (by simp only [List.getElem?_toArray, List.getElem?_cons_succ, List.getElem?_cons_zero]; rfl) (by rfl) (by kernel_rfl) (by kernel_rfl) (by kernel_rfl) (by intro _ _ _ h; exact h) (by rfl) ?_ (by assumption) ?_
        rotate_left 1
        · (intro w hSw; (try dsimp only at hSw); go_simp; try (with_reducible rfl))
        (try simp only [Act.put, List.setIfInBounds_toArray, List.set_cons_zero, List.set_cons_succ])
        refine wpAnyH_takeW (i := 2) (d := some 48) (v := ?_) (by simp only [List.getElem?_toArray, List.getElem?_cons_succ, List.getElem?_cons_zero]; rfl) (by rfl) (by kernel_rfl) (by kernel_rfl) (by kernel_rfl) (by intro _ _ _ h; exact h) (by rfl) ?_ (by assumption) ?_
        rotate_left 1
        · (intro w hSw; (try dsimp only at hSw); go_simp; try (with_reducible rfl))
        (try simp only [Act.put, List.setIfInBounds_toArray, List.set_cons_zero, List.set_cons_succ])
        refine wpAnyH_takeW (i := 3) (d := some 49) (v := ?_) (by simp only [List.getElem?_toArray, List.getElem?_cons_succ, List.getElem?_cons_zero]; rfl) (by rfl) (by kernel_rfl) (by kernel_rfl) (by kernel_rfl) (by intro _ _ _ h; exact h) (by rfl) ?_ (by assumption) ?_
        rotate_left 1
        · (intro w hSw; (try dsimp only at hSw); go_simp; try (with_reducible rfl))
        (try simp only [Act.put, List.setIfInBounds_toArray, List.set_cons_zero, List.set_cons_succ])
        refine wpAnyH_takeW (i := 4) (d := some 50) (v := ?_) (by simp only [List.getElem?_toArray, List.getElem?_cons_succ, List.getElem?_cons_zero]; rfl) (by rfl) (by kernel_rfl) (by kernel_rfl) (by kernel_rfl) (by intro _ _ _ h; exact h) (by rfl) ?_ (by assumption) ?_
        rotate_left 1
        · (intro w hSw; (try dsimp only at hSw); go_simp; try (with_reducible rfl))
        (try simp only [Act.put, List.setIfInBounds_toArray, List.set_cons_zero, List.set_cons_succ])
        refine wpAnyH_takeW (i := 5) (d := some 51) (v := ?_) (by simp only [List.getElem?_toArray, List.getElem?_cons_succ, List.getElem?_cons_zero]; rfl) (by rfl) (by kernel_rfl) (by kernel_rfl) (by kernel_rfl) (by intro _ _ _ h; exact h) (by rfl) ?_ (by assumption) ?_
        rotate_left 1
        · (intro w hSw; (try dsimp only at hSw); go_simp; try (with_reducible rfl))
        (try simp only [Act.put, List.setIfInBounds_toArray, List.set_cons_zero, List.set_cons_succ])
        refine wpAnyH_takeW (i := 6) (d := some 52) (v := ?_) (by simp only [List.getElem?_toArray, List.getElem?_cons_succ, List.getElem?_cons_zero]; rfl) (by rfl) (by kernel_rfl) (by kernel_rfl) (by kernel_rfl) (by intro _ _ _ h; exact h) (by rfl) ?_ (by assumption) ?_
        rotate_left 1
        · (intro w hSw; (try dsimp only at hSw); go_simp; try (with_reducible rfl))
        (try simp only [Act.put, List.setIfInBounds_toArray, List.set_cons_zero, List.set_cons_succ])
        refine wpAnyH_takeW (i := 7) (d := some 53) (v := ?_) (by simp only [List.getElem?_toArray, List.getElem?_cons_succ, List.getElem?_cons_zero]; rfl) (by rfl) (by kernel_rfl) (by kernel_rfl) (by kernel_rfl) (by intro _ _ _ h; exact h) (by rfl) ?_ (by assumption) ?_
        rotate_left 1
        · (intro w hSw; (try dsimp only at hSw); go_simp; try (with_reducible rfl))
        (try simp only [Act.put, List.setIfInBounds_toArray, List.set_cons_zero, List.set_cons_succ])
        refine wpAnyH_takeW (i := 8) (d := some 54) (v := ?_) (by simp only [List.getElem?_toArray, List.getElem?_cons_succ, List.getElem?_cons_zero]; rfl) (by rfl) (by kernel_rfl) (by kernel_rfl) (by kernel_rfl) (by intro _ _ _ h; exact h) (by rfl) ?_ (by assumption) ?_
        rotate_left 1
        · (intro w hSw; (try dsimp only at hSw); go_simp; try (with_reducible rfl))
        (try simp only [Act.put, List.setIfInBounds_toArray, List.set_cons_zero, List.set_cons_succ])
        refine wpAnyH_takeW (i := 9) (d := some 55) (v := ?_) (by simp only [List.getElem?_toArray, List.getElem?_cons_succ, List.getElem?_cons_zero]; rfl) (by rfl) (by kernel_rfl) (by kernel_rfl) (by kernel_rfl) (by intro _ _ _ h; exact h) (by rfl) ?_ (by assumption) ?_
        rotate_left 1
        · (intro w hSw; (try dsimp only at hSw); go_simp; try (with_reducible rfl))
        (try simp only [Act.put, List.setIfInBounds_toArray, List.set_cons_zero, List.set_cons_succ])
        refine wpAnyH_takeW (i := 10) (d := some 56) (v := ?_) (by simp only [List.getElem?_toArray, List.getElem?_cons_succ, List.getElem?_cons_zero]; rfl) (by rfl) (by kernel_rfl) (by kernel_rfl) (by kernel_rfl) (by intro _ _ _ h; exact h) (by rfl) ?_ (by assumption) ?_
        rotate_left 1
        · (intro w hSw; (try dsimp only at hSw); go_simp; try (with_reducible rfl))
        (try simp only [Act.put, List.setIfInBounds_toArray, List.set_cons_zero, List.set_cons_succ])
        refine wpAnyH_takeW (i := 11) (d := some 57) (v := ?_) (by simp only [List.getElem?_toArray, List.getElem?_cons_succ, List.getElem?_cons_zero]; rfl) (by rfl) (by kernel_rfl) (by kernel_rfl) (by kernel_rfl) (by intro _ _ _ h; exact h) (by rfl) ?_ (by assumption) ?_
        rotate_left 1
        · (intro w hSw; (try dsimp only at hSw); go_simp; try (with_reducible rfl))
        (try simp only [Act.put, List.setIfInBounds_toArray, List.set_cons_zero, List.set_cons_succ])
        refine wpAnyH_takeW (i := 12) (d := some 58) (v := ?_) (by simp only [List.getElem?_toArray, List.getElem?_cons_succ, List.getElem?_cons_zero]; rfl) (by rfl) (by kernel_rfl) (by kernel_rfl) (by kernel_rfl) (by intro _ _ _ h; exact h) (by rfl) ?_ (by assumption) ?_
        rotate_left 1
        · (intro w hSw; (try dsimp only at hSw); go_simp; try (with_reducible rfl))
        (try simp only [Act.put, List.setIfInBounds_toArray, List.set_cons_zero, List.set_cons_succ])
        refine wpAnyH_takeW (i := 13) (d := some 59) (v := ?_) (by simp only [List.getElem?_toArray, List.getElem?_cons_succ, List.getElem?_cons_zero]; rfl) (by rfl) (by kernel_rfl) (by kernel_rfl) (by kernel_rfl) (by intro _ _ _ h; exact h) (by rfl) ?_ (by assumption) ?_
        rotate_left 1
        · (intro w hSw; (try dsimp only at hSw); go_simp; try (with_reducible rfl))
        (try simp only [Act.put, List.setIfInBounds_toArray, List.set_cons_zero, List.set_cons_succ])
        refine wpAnyH_takeW (i := 15) (d := some 61) (v := ?_) (by simp only [List.getElem?_toArray, List.getElem?_cons_succ, List.getElem?_cons_zero]; rfl) (by rfl) (by kernel_rfl) (by kernel_rfl) (by kernel_rfl) (by intro _ _ _ h; exact h) (by rfl) ?_ (by assumption) ?_
        rotate_left 1
        · (intro w hSw; (try dsimp only at hSw); go_simp; try (with_reducible rfl))
        (try simp only [Act.put, List.setIfInBounds_toArray, List.set_cons_zero, List.set_cons_succ])
        refine wpAnyH_takeW (i := 16) (d := some 62) (v := ?_) (by simp only [List.getElem?_toArray, List.getElem?_cons_succ, List.getElem?_cons_zero]; rfl) (by rfl) (by kernel_rfl) (by kernel_rfl) (by kernel_rfl) (by intro _ _ _ h; exact h) (by rfl) ?_ (by assumption) ?_
        rotate_left 1
        · (intro w hSw; (try dsimp only at hSw); go_simp; try (with_reducible rfl))
        (try simp only [Act.put, List.setIfInBounds_toArray, List.set_cons_zero, List.set_cons_succ])
        refine wpAnyH_takeW (i := 17) (d := some 63) (v := ?_) (by simp only [List.getElem?_toArray, List.getElem?_cons_succ, List.getElem?_cons_zero]; rfl) (by rfl) (by kernel_rfl) (by kernel_rfl) (by kernel_rfl) (by intro _ _ _ h; exact h) (by rfl) ?_ (by assumption) ?_
        rotate_left 1
        · (intro w hSw; (try dsimp only at hSw); go_simp; try (with_reducible rfl))
        (try simp only [Act.put, List.setIfInBounds_toArray, List.set_cons_zero, List.set_cons_succ])
        refine wpAnyH_ready (rs := [14]) (by kernel_rfl) (by simp) ?_
        refine AllReadyH.cons (i := 14) (by simp only [List.getElem?_toArray, List.getElem?_cons_succ, List.getElem?_cons_zero]; rfl) (fun K hK => ?_) AllReadyH.nil
        go_simp
        (go_at_call 51; refine (specDist_any st x1 _).mono ?_; rintro e w' ⟨rfl, rfl⟩)
        go_wp2_with fail
        refine hK.out _ _ ?_ (fun hHeld => ?_)
        · ((try dsimp only); first | exact ⟨c0', c1', e0⟩ | (simp [go_sem, *]; done))
        clear hK K
        (try simp only [Act.put, List.setIfInBounds_toArray, List.set_cons_zero, List.set_cons_succ])
        refine wpAnyH_ready (rs := [18]) (by kernel_rfl) (by simp) ?_
        refine AllReadyH.cons (i := 18) (by simp only [List.getElem?_toArray, List.getElem?_cons_succ, List.getElem?_cons_zero]; rfl) (fun K hK => ?_) AllReadyH.nil
        go_simp
        (go_at_call 51; refine (specDist_any st q _).mono ?_; rintro e w' ⟨rfl, rfl⟩)
        go_wp2_with fail
        refine hK.out _ _ ?_ (fun hHeld => ?_)
        · ((try dsimp only); first | exact ⟨c0', c1', e0⟩ | (simp [go_sem, *]; done))
        clear hK K
        (try simp only [Act.put, List.setIfInBounds_toArray, List.set_cons_zero, List.set_cons_succ])
        refine wpAnyH_takeW (i := 19) (d := some 65) (v := ?_) (by simp only [List.getElem?_toArray, List.getElem?_cons_succ, List.getElem?_cons_zero]; rfl) (by rfl) (by kernel_rfl) (by kernel_rfl) (by kernel_rfl) (by intro _ _ _ h; exact h) (by rfl) ?_ (by assumption) ?_
        rotate_left 1
        · (intro w hSw; (try dsimp only at hSw); go_simp; try (with_reducible rfl))
        (try simp only [Act.put, List.setIfInBounds_toArray, List.set_cons_zero, List.set_cons_succ])
        refine wpAnyH_takeW (i := 20) (d := some 66) (v := ?_) (by simp only [List.getElem?_toArray, List.getElem?_cons_succ, List.getElem?_cons_zero]; rfl) (by rfl) (by kernel_rfl) (by kernel_rfl) (by kernel_rfl) (by intro _ _ _ h; exact h) (by rfl) ?_ (by assumption) ?_
        rotate_left 1
        · (intro w hSw; (try dsimp only at hSw); go_simp; try (with_reducible rfl))
        (try simp only [Act.put, List.setIfInBounds_toArray, List.set_cons_zero, List.set_cons_succ])
        refine wpAnyH_done (by kernel_rfl) ?_ _
        go_wp2
        go_roundw
        case rel => exact ⟨k + 1, by omega, by go_num, Lib.hid (Dr.drew HDr.out), Lib.hid (fun j x hj hx => by
            rcases Nat.lt_or_ge j k with h | h
            · exact HK.out j x h hx
            · obtain rfl : j = k := by omega
              rw [HXK.out] at hx
              injection hx with hx
              subst hx
              exact hc2)⟩
        case measure => simp [intOf]; omega
      · have HXL : Hid (seqD st q ≤ seqD st x1) := Lib.hid (by omega)
        go_wp2
        refine wp_region_held_drew (S := (fun w' => w'.cell? ⟨nb, 0, none⟩ = some (.int .i64 st) ∧ w'.cell? ⟨nb, 1, none⟩ = some (.slice (some ⟨g1, o1, none⟩) xs.length c) ∧ w'.cell? ⟨g1, o1 + k * 2, none⟩ = some (.int .i64 x1))) (by kernel_rfl) ?_ (fun hHeld => ?_)
        · first | exact ⟨c0', c1', e0⟩ | (simp [go_sem, *]; done)
        refine wpAnyH_takeW (i := 0) (d := some 46) (v := ?_) (by simp only [List.getElem?_toArray, List.getElem?_cons_succ, List.getElem?_cons_zero]; rfl) (by rfl) (by kernel_rfl) (by kernel_rfl) (by kernel_rfl) (by intro _ _ _ h; exact h) (by rfl) ?_ (by assumption) ?_
        rotate_left 1
        · (intro w hSw; (try dsimp only at hSw); go_simp; try (with_reducible rfl))
        (try simp only [Act.put, List.setIfInBounds_toArray, List.set_cons_zero, List.set_cons_succ])
        refine wpAnyH_takeW (i := 1) (d := some 47) (v := ?_) (by simp only [List.getElem?_toArray, List.getElem?_cons_succ, List.getElem?_cons_zero]; rfl) (by rfl) (by kernel_rfl) (by kernel_rfl) (by kernel_rfl) (by intro _ _ _ h; exact h) (by rfl) ?_ (by assumption) ?_
        rotate_left 1
        · (intro w hSw; (try dsimp only at hSw); go_simp; try (with_reducible rfl))
        (try simp only [Act.put, List.setIfInBounds_toArray, List.set_cons_zero, List.set_cons_succ])
        refine wpAnyH_takeW (i := 2) (d := some 48) (v := ?_) (by simp only [List.getElem?_toArray, List.getElem?_cons_succ, List.getElem?_cons_zero]; rfl) (by rfl) (by kernel_rfl) (by kernel_rfl) (by kernel_rfl) (by intro _ _ _ h; exact h) (by rfl) ?_ (by assumption) ?_
        rotate_left 1
        · (intro w hSw; (try dsimp only at hSw); go_simp; try (with_reducible rfl))
        (try simp only [Act.put, List.setIfInBounds_toArray, List.set_cons_zero, List.set_cons_succ])
        refine wpAnyH_takeW (i := 3) (d := some 49) (v := ?_) (by simp only [List.getElem?_toArray, List.getElem?_cons_succ, List.getElem?_cons_zero]; rfl) (by rfl) (by kernel_rfl) (by kernel_rfl) (by kernel_rfl) (by intro _ _ _ h; exact h) (by rfl) ?_ (by assumption) ?_
        rotate_left 1
        · (intro w hSw; (try dsimp only at hSw); go_simp; try (with_reducible rfl))
        (try simp only [Act.put, List.setIfInBounds_toArray, List.set_cons_zero, List.set_cons_succ])
        refine wpAnyH_takeW (i := 4) (d := some 50) (v := ?_) (by simp only [List.getElem?_toArray, List.getElem?_cons_succ, List.getElem?_cons_zero]; rfl) (by rfl) (by kernel_rfl) (by kernel_rfl) (by kernel_rfl) (by intro _ _ _ h; exact h) (by rfl) ?_ (by assumption) ?_
        rotate_left 1
        · (intro w hSw; (try dsimp only at hSw); go_simp; try (with_reducible rfl))
        (try simp only [Act.put, List.setIfInBounds_toArray, List.set_cons_zero, List.set_cons_succ])
        refine wpAnyH_takeW (i := 5) (d := some 51) (v := ?_) (by simp only [List.getElem?_toArray, List.getElem?_cons_succ, List.getElem?_cons_zero]; rfl) (by rfl) (by kernel_rfl) (by kernel_rfl) (by kernel_rfl) (by intro _ _ _ h; exact h) (by rfl) ?_ (by assumption) ?_
        rotate_left 1
        · (intro w hSw; (try dsimp only at hSw); go_simp; try (with_reducible rfl))
        (try simp only [Act.put, List.setIfInBounds_toArray, List.set_cons_zero, List.set_cons_succ])
        refine wpAnyH_takeW (i := 6) (d := some 52) (v := ?_) (by simp only [List.getElem?_toArray, List.getElem?_cons_succ, List.getElem?_cons_zero]; rfl) (by rfl) (by kernel_rfl) (by kernel_rfl) (by kernel_rfl) (by intro _ _ _ h; exact h) (by rfl) ?_ (by assumption) ?_
        rotate_left 1
        · (intro w hSw; (try dsimp only at hSw); go_simp; try (with_reducible rfl))
        (try simp only [Act.put, List.setIfInBounds_toArray, List.set_cons_zero, List.set_cons_succ])
        refine wpAnyH_takeW (i := 7) (d := some 53) (v := ?_) (by simp only [List.getElem?_toArray, List.getElem?_cons_succ, List.getElem?_cons_zero]; rfl) (by rfl) (by kernel_rfl) (by kernel_rfl) (by kernel_rfl) (by intro _ _ _ h; exact h) (by rfl) ?_ (by assumption) ?_
        rotate_left 1
        · (intro w hSw; (try dsimp only at hSw); go_simp; try (with_reducible rfl))
        (try simp only [Act.put, List.setIfInBounds_toArray, List.set_cons_zero, List.set_cons_succ])
        refine wpAnyH_takeW (i := 8) (d := some 54) (v := ?_) (by simp only [List.getElem?_toArray, List.getElem?_cons_succ, List.getElem?_cons_zero]; rfl) (by rfl) (by kernel_rfl) (by kernel_rfl) (by kernel_rfl) (by intro _ _ _ h; exact h) (by rfl) ?_ (by assumption) ?_
        rotate_left 1
        · (intro w hSw; (try dsimp only at hSw); go_simp; try (with_reducible rfl))
        (try simp only [Act.put, List.setIfInBounds_toArray, List.set_cons_zero, List.set_cons_succ])
        refine wpAnyH_takeW (i := 9) (d := some 55) (v := ?_) (by simp only [List.getElem?_toArray, List.getElem?_cons_succ, List.getElem?_cons_zero]; rfl) (by rfl) (by kernel_rfl) (by kernel_rfl) (by kernel_rfl) (by intro _ _ _ h; exact h) (by rfl) ?_ (by assumption) ?_
        rotate_left 1
        · (intro w hSw; (try dsimp only at hSw); go_simp; try (with_reducible rfl))
        (try simp only [Act.put, List.setIfInBounds_toArray, List.set_cons_zero, List.set_cons_succ])
        refine wpAnyH_takeW (i := 10) (d := some 56) (v := ?_) (by simp only [List.getElem?_toArray, List.getElem?_cons_succ, List.getElem?_cons_zero]; rfl) (by rfl) (by kernel_rfl) (by kernel_rfl) (by kernel_rfl) (by intro _ _ _ h; exact h) (by rfl) ?_ (by assumption) ?_
        rotate_left 1
        · (intro w hSw; (try dsimp only at hSw); go_simp; try (with_reducible rfl))
        (try simp only [Act.put, List.setIfInBounds_toArray, List.set_cons_zero, List.set_cons_succ])
        refine wpAnyH_takeW (i := 11) (d := some 57) (v := ?_) (by simp only [List.getElem?_toArray, List.getElem?_cons_succ, List.getElem?_cons_zero]; rfl) (by rfl) (by kernel_rfl) (by kernel_rfl) (by kernel_rfl) (by intro _ _ _ h; exact h) (by rfl) ?_ (by assumption) ?_
        rotate_left 1
        · (intro w hSw; (try dsimp only at hSw); go_simp; try (with_reducible rfl))
        (try simp only [Act.put, List.setIfInBounds_toArray, List.set_cons_zero, List.set_cons_succ])
        refine wpAnyH_takeW (i := 12) (d := some 58) (v := ?_) (by simp only [List.getElem?_toArray, List.getElem?_cons_succ, List.getElem?_cons_zero]; rfl) (by rfl) (by kernel_rfl) (by kernel_rfl) (by kernel_rfl) (by intro _ _ _ h; exact h) (by rfl) ?_ (by assumption) ?_
        rotate_left 1
        · (intro w hSw; (try dsimp only at hSw); go_simp; try (with_reducible rfl))
        (try simp only [Act.put, List.setIfInBounds_toArray, List.set_cons_zero, List.set_cons_succ])
        refine wpAnyH_takeW (i := 13) (d := some 59) (v := ?_) (by simp only [List.getElem?_toArray, List.getElem?_cons_succ, List.getElem?_cons_zero]; rfl) (by rfl) (by kernel_rfl) (by kernel_rfl) (by kernel_rfl) (by intro _ _ _ h; exact h) (by rfl) ?_ (by assumption) ?_
        rotate_left 1
        · (intro w hSw; (try dsimp only at hSw); go_simp; try (with_reducible rfl))
        (try simp only [Act.put, List.setIfInBounds_toArray, List.set_cons_zero, List.set_cons_succ])
        refine wpAnyH_takeW (i := 15) (d := some 61) (v := ?_) (by simp only [List.getElem?_toArray, List.getElem?_cons_succ, List.getElem?_cons_zero]; rfl) (by rfl) (by kernel_rfl) (by kernel_rfl) (by kernel_rfl) (by intro _ _ _ h; exact h) (by rfl) ?_ (by assumption) ?_
        rotate_left 1
        · (intro w hSw; (try dsimp only at hSw); go_simp; try (with_reducible rfl))
        (try simp only [Act.put, List.setIfInBounds_toArray, List.set_cons_zero, List.set_cons_succ])
        refine wpAnyH_takeW (i := 16) (d := some 62) (v := ?_) (by simp only [List.getElem?_toArray, List.getElem?_cons_succ, List.getElem?_cons_zero]; rfl) (by rfl) (by kernel_rfl) (by kernel_rfl) (by kernel_rfl) (by intro _ _ _ h; exact h) (by rfl) ?_ (by assumption) ?_
        rotate_left 1
        · (intro w hSw; (try dsimp only at hSw); go_simp; try (with_reducible rfl))
        (try simp only [Act.put, List.setIfInBounds_toArray, List.set_cons_zero, List.set_cons_succ])
        refine wpAnyH_takeW (i := 17) (d := some 63) (v := ?_) (by simp only [List.getElem?_toArray, List.getElem?_cons_succ, List.getElem?_cons_zero]; rfl) (by rfl) (by kernel_rfl) (by kernel_rfl) (by kernel_rfl) (by intro _ _ _ h; exact h) (by rfl) ?_ (by assumption) ?_
        rotate_left 1
        · (intro w hSw; (try dsimp only at hSw); go_simp; try (with_reducible rfl))
        (try simp only [Act.put, List.setIfInBounds_toArray, List.set_cons_zero, List.set_cons_succ])
        refine wpAnyH_ready (rs := [14]) (by kernel_rfl) (by simp) ?_
        refine AllReadyH.cons (i := 14) (by simp only [List.getElem?_toArray, List.getElem?_cons_succ, List.getElem?_cons_zero]; rfl) (fun K hK => ?_) AllReadyH.nil
        go_simp
        (go_at_call 51; refine (specDist_any st x1 _).mono ?_; rintro e w' ⟨rfl, rfl⟩)
        go_wp2_with fail
        refine hK.out _ _ ?_ (fun hHeld => ?_)
        · ((try dsimp only); first | exact ⟨c0', c1', e0⟩ | (simp [go_sem, *]; done))
        clear hK K
        (try simp only [Act.put, List.setIfInBounds_toArray, List.set_cons_zero, List.set_cons_succ])
        refine wpAnyH_ready (rs := [18]) (by kernel_rfl) (by simp) ?_
        refine AllReadyH.cons (i := 18) (by simp only [List.getElem?_toArray, List.getElem?_cons_succ, List.getElem?_cons_zero]; rfl) (fun K hK => ?_) AllReadyH.nil
        go_simp
        (go_at_call 51; refine (specDist_any st q _).mono ?_; rintro e w' ⟨rfl, rfl⟩)
        go_wp2_with fail
        refine hK.out _ _ ?_ (fun hHeld => ?_)
        · ((try dsimp only); first | exact ⟨c0', c1', e0⟩ | (simp [go_sem, *]; done))
        clear hK K
        (try simp only [Act.put, List.setIfInBounds_toArray, List.set_cons_zero, List.set_cons_succ])
        refine wpAnyH_takeW (i := 19) (d := some 65) (v := ?_) (by simp only [List.getElem?_toArray, List.getElem?_cons_succ, List.getElem?_cons_zero]; rfl) (by rfl) (by kernel_rfl) (by kernel_rfl) (by kernel_rfl) (by intro _ _ _ h; exact h) (by rfl) ?_ (by assumption) ?_
        rotate_left 1
        · (intro w hSw; (try dsimp only at hSw); go_simp; try (with_reducible rfl))
        (try simp only [Act.put, List.setIfInBounds_toArray, List.set_cons_zero, List.set_cons_succ])
        refine wpAnyH_takeW (i := 20) (d := some 66) (v := ?_) (by simp only [List.getElem?_toArray, List.getElem?_cons_succ, List.getElem?_cons_zero]; rfl) (by rfl) (by kernel_rfl) (by kernel_rfl) (by kernel_rfl) (by intro _ _ _ h; exact h) (by rfl) ?_ (by assumption) ?_
        rotate_left 1
        · (intro w hSw; (try dsimp only at hSw); go_simp; try (with_reducible rfl))
        (try simp only [Act.put, List.setIfInBounds_toArray, List.set_cons_zero, List.set_cons_succ])
        refine wpAnyH_done (by kernel_rfl) ?_ _
        obtain ⟨wd, hwd⟩ : ∃ wd, wd = wr.drew := ⟨_, rfl⟩
        rw [← hwd]
        have e0d : wd.cell? ⟨g1, o1 + k * 2, none⟩ = some (.int .i64 x1) := by rw [hwd]; exact e0
        rw [hwd] at e0d
        rw [hwd]
        clear e0d hwd wd
        obtain ⟨wd, hwd⟩ : ∃ wd, wd = wr.drew := ⟨_, rfl⟩
        rw [← hwd]
        have hbd : Below w7.heap.size w7 wd := by rw [hwd]; exact Below.drew HDr.out.below
        have hsd : w7.heap.size ≤ wd.heap.size := hbd.size
        have e0d : wd.cell? ⟨g1, o1 + k * 2, none⟩ = some (.int .i64 x1) := by rw [hwd]; exact e0
        clear hwd e0 c0' c1'
        replace k0 := (hbd.cell (p := ⟨nb, 0, none⟩) (by simp only; omega)).trans k0
        replace k1 := (hbd.cell (p := ⟨nb, 1, none⟩) (by simp only; omega)).trans k1
        replace k2 := (hbd.frozen (p := ⟨nb, 0, none⟩) (by simp only; omega)).trans k2
        replace k3 := (hbd.frozen (p := ⟨nb, 1, none⟩) (by simp only; omega)).trans k3
        replace r0 := (hbd.cell (p := ⟨w.heap.size + 1, 0, none⟩) (by simp only; omega)).trans r0
        replace r1 := (hbd.cell (p := ⟨w.heap.size + 1, 1, none⟩) (by simp only; omega)).trans r1
        replace z0 := (hbd.frozen (p := ⟨w.heap.size + 1, 0, none⟩) (by simp only; omega)).trans z0
        replace z1 := (hbd.frozen (p := ⟨w.heap.size + 1, 1, none⟩) (by simp only; omega)).trans z1
        have HBD := Lib.hid (HB8.out.trans (hbd.mono HB8.out.size))
        have HSD := Lib.hid (Sl.below (R := EN true) EN.framed HS8.out hbd)
        have HSPD := Lib.hid (HSP7.out.below hbd)
        have HOD := Lib.hid (OwS.below (R := EB true) EB.framed HO8.out hbd)
        clear hbd
        rw [HAE.out] at k1
        replace HSD := Lib.hid (by have h := HSD.out; rw [HAE.out] at h; exact h)
        replace HSPD := Lib.hid (by have h := HSPD.out; rw [HAE.out] at h; exact h)
        by_cases hq : x1 = q
        · have hqb : (x1 == q) = true := by simp [hq]
          have HXQ := Lib.hid hq
          have HR : Hid (rcvS st q body xs = (st, xs, [])) := Lib.hid (HRN.out (insS_hit _ _ _ _ HXK.out (by simpa using HXQ.out) (by have := HXL.out; simp only; omega) HK.out))
          have hfin : Chg (fun b => b = w.heap.size + 1) wd ((wd.setCell ⟨w.heap.size + 1, 0, none⟩ (.int .i64 st)).setCell ⟨w.heap.size + 1, 1, none⟩ (.slice (some ⟨g1, o1, none⟩) xs.length c)) := Chg.setCell_ (S := fun b => b = w.heap.size + 1) (Chg.setCell_ (S := fun b => b = w.heap.size + 1) (Chg.refl _ _) (p := ⟨w.heap.size + 1, 0, none⟩) rfl _) (p := ⟨w.heap.size + 1, 1, none⟩) rfl _
          have hv0 : ((wd.setCell ⟨w.heap.size + 1, 0, none⟩ (.int .i64 st)).setCell ⟨w.heap.size + 1, 1, none⟩ (.slice (some ⟨g1, o1, none⟩) xs.length c)).cell? ⟨w.heap.size + 1, 0, none⟩ = some (.int .i64 st) := by rw [World.cell?_setCell_other _ _ _ _ (fun e => by injection e with _ e2; omega)]; exact World.cell?_setCell_same _ _ _ r0
          have hv1 : ((wd.setCell ⟨w.heap.size + 1, 0, none⟩ (.int .i64 st)).setCell ⟨w.heap.size + 1, 1, none⟩ (.slice (some ⟨g1, o1, none⟩) xs.length c)).cell? ⟨w.heap.size + 1, 1, none⟩ = some (.slice (some ⟨g1, o1, none⟩) xs.length c) := World.cell?_setCell_same (u := .slice none 0 0) _ _ _ (by rw [World.cell?_setCell_other _ _ _ _ (fun e => by injection e with _ e2; omega)]; exact r1)
          have HF := Lib.hid hfin
          have HV0 := Lib.hid hv0
          have HV1 := Lib.hid hv1
          clear hfin hv0 hv1
          go_wp2
          refine bodyPost_ret (v := .tuple #[.agg #[.int .i64 st, .slice (some ⟨g1, o1, none⟩) xs.length c], .slice (some ⟨w2.heap.size, 0, none⟩) 0 0]) (by simp [results, Try.results22, go_sem, HV0.out, HV1.out]) rfl ?_
          rw [HR.out]
          have h1 := HF.out.size
          refine ⟨(some ⟨g1, o1, none⟩), c, w2.heap.size, 0, (fun b => w.heap.size + 2 ≤ b ∧ b < nb), (fun b => (fun _ => False) b ∨ b = w2.heap.size), rfl, HBD.out.trans (HF.out.below (by omega) (fun k hk => by omega)), hcap8, fun b hb => ⟨by have := HD1.out b hb; omega, by have := HD1.out b hb; omega, fun h => ?_⟩, fun b hb => ?_, Sl.frame (R := EN true) EN.framed HSD.out HF.out (fun b hb h2 => by have := HD1.out b hb; omega), ((OwS.frame (R := EB true) EB.framed HOD.out HF.out (fun b hb h2 => by have := HD2.out b hb; omega) (fun a' ha' h2 => by injection ha' with ha'; subst ha'; simp only at h2; omega)).lower (by omega)).widerT (fun b h1 h2 => .inl h1), .inr rfl, HSPD.out.frame HF.out (fun a ha h2 => by have := HSPN.out a (HAE.out.trans ha); omega), fun a ha => by have := HSPN.out a (HAE.out.trans ha); omega⟩
          · have h9 := HD1.out b hb
            rcases h with h | h
            · exact h9.2.2.2.2 h
            · omega
          · rcases hb with h | h
            · have := HD2.out b h; omega
            · subst h; omega
        · have hqb : (x1 == q) = false := by simp [hq]
          have HINS0 : Hid (insS st (q, body) xs = some (xs.take k ++ (q, body) :: xs.drop k)) := Lib.hid (insS_miss _ _ _ _ hk HK.out (fun x hx => by rw [HXK.out] at hx; injection hx with hx; subst hx; exact ⟨by have := HXL.out; simp only; omega, hq⟩))
          have HINS := HINS0

          obtain ⟨j0, hj, hy0, hy1, hy2⟩ := info_parts infoU8
          obtain ⟨i0, hI0, hz0, hz1, hz2⟩ := info_parts infoNF
          have hbnl : Below wd.heap.size wd (wd.alloc (.cells #[] 5)) := Below.alloc (Below.refl _ _) (Nat.le_refl _) _
          have HBN := Lib.hid hbnl
          have HROW : Hid (OwR (Value.int .u8) 5 (wd.alloc (.cells #[] 5)) wd.heap.size wd.heap.size 0 []) := Lib.hid (OwR.new (Nat.le_refl _) (World.heap_new _ _ _ rfl))
          clear hbnl
          go_wp2_with (at_builtin; refine wpList_appR (f := Value.int .u8) rfl (.tmp 87) (.tmp 88) 38 rfl 5 j0 (.int .u8 0) 1 Try.underlying38 hj hy0 hy1 hy2 rfl wd.heap.size _ _ [] rfl HROW.out B body cb (fun _ _ => rfl) rfl (HBY.out.below (HBD.out.trans (HBN.out.mono HBD.out.size))).rwF (by simp only [List.length_nil]; omega) (by decide) (by simp) ?_)
          intro gf cf w9 lf HQf HOf HGf HCf
          have hlf : lf = body := HQf.out
          subst hlf
          have hs9 : wd.heap.size + 1 ≤ w9.heap.size := by have := HCf.out.size; simpa using this
          have hgf : wd.heap.size ≤ gf := HOf.out.ge
          have hgf2 : gf < w9.heap.size := HOf.out.lt
          have hb9 : Below wd.heap.size wd w9 := HBN.out.trans (HCf.out.below (by simp) (fun k hk => by omega))
          replace k0 := (hb9.cell (p := ⟨nb, 0, none⟩) (by simp only; omega)).trans k0
          replace k1 := (hb9.cell (p := ⟨nb, 1, none⟩) (by simp only; omega)).trans k1
          replace k2 := (hb9.frozen (p := ⟨nb, 0, none⟩) (by simp only; omega)).trans k2
          replace k3 := (hb9.frozen (p := ⟨nb, 1, none⟩) (by simp only; omega)).trans k3
          replace r0 := (hb9.cell (p := ⟨w.heap.size + 1, 0, none⟩) (by simp only; omega)).trans r0
          replace r1 := (hb9.cell (p := ⟨w.heap.size + 1, 1, none⟩) (by simp only; omega)).trans r1
          replace z0 := (hb9.frozen (p := ⟨w.heap.size + 1, 0, none⟩) (by simp only; omega)).trans z0
          replace z1 := (hb9.frozen (p := ⟨w.heap.size + 1, 1, none⟩) (by simp only; omega)).trans z1
          have HB9 := Lib.hid (HBD.out.trans (hb9.mono HBD.out.size))
          have HS9 := Lib.hid (Sl.below (R := EN true) EN.framed HSD.out hb9)
          have HO9 := Lib.hid (OwS.below (R := EB true) EB.framed HOD.out hb9)
          have HFR9 : Hid (Rw true .u8 w9 (fun b => b = gf) (some ⟨gf, 0, none⟩) lf) := Lib.hid HOf.out.rwF.rw
          clear hb9 HBN HROW HOf HGf HCf HQf
          go_wp2
          obtain ⟨wE, hwE⟩ : ∃ wE, wE = w9.alloc (.cells #[.int .i64 q, .slice (some ⟨gf, 0, none⟩) lf.length cf] 75) := ⟨_, rfl⟩
          rw [← hwE]
          obtain ⟨fb, hfb⟩ : ∃ fb, fb = w9.heap.size := ⟨_, rfl⟩
          have hbE : Below w9.heap.size w9 wE := by rw [hwE]; exact Below.alloc (Below.refl _ _) (Nat.le_refl _) _
          have hsE : w9.heap.size < wE.heap.size := by rw [hwE]; simp
          have f0 : wE.cell? ⟨fb, 0, none⟩ = some (.int .i64 q) := by rw [hwE, hfb]; exact (block_cell (World.heap_new w9 (.cells #[.int .i64 q, .slice (some ⟨gf, 0, none⟩) lf.length cf] 75) _ rfl) 0).1
          have f1 : wE.cell? ⟨fb, 1, none⟩ = some (.slice (some ⟨gf, 0, none⟩) lf.length cf) := by rw [hwE, hfb]; exact (block_cell (World.heap_new w9 (.cells #[.int .i64 q, .slice (some ⟨gf, 0, none⟩) lf.length cf] 75) _ rfl) 1).1
          rw [← hfb]
          have hfb1 : w9.heap.size ≤ fb := Nat.le_of_eq hfb.symm
          have hfb2 : fb < wE.heap.size := by omega
          clear hfb
          replace k0 := (hbE.cell (p := ⟨nb, 0, none⟩) (by simp only; omega)).trans k0
          replace k1 := (hbE.cell (p := ⟨nb, 1, none⟩) (by simp only; omega)).trans k1
          replace k2 := (hbE.frozen (p := ⟨nb, 0, none⟩) (by simp only; omega)).trans k2
          replace k3 := (hbE.frozen (p := ⟨nb, 1, none⟩) (by simp only; omega)).trans k3
          replace r0 := (hbE.cell (p := ⟨w.heap.size + 1, 0, none⟩) (by simp only; omega)).trans r0
          replace r1 := (hbE.cell (p := ⟨w.heap.size + 1, 1, none⟩) (by simp only; omega)).trans r1
          replace z0 := (hbE.frozen (p := ⟨w.heap.size + 1, 0, none⟩) (by simp only; omega)).trans z0
          replace z1 := (hbE.frozen (p := ⟨w.heap.size + 1, 1, none⟩) (by simp only; omega)).trans z1
          have HBE := Lib.hid (HB9.out.trans (hbE.mono HB9.out.size))
          have HSE := Lib.hid (Sl.below (R := EN true) EN.framed HS9.out hbE)
          have HOE := Lib.hid (OwS.below (R := EB true) EB.framed HO9.out hbE)
          have HFR := Lib.hid (HFR9.out.below hbE)
          clear hbE hwE HB9 HS9 HO9 HFR9
          obtain ⟨ga, oa, F, hA, hgl, hFT, hSEP, hFg, hEL⟩ := HSE.out.parts
          have HEL := Lib.hid hEL
          have HA := Lib.hid hA
          have HGL := Lib.hid hgl
          have HFT := Lib.hid hFT
          have HSEP := Lib.hid hSEP
          clear hA hgl hFT hSEP hFg
          obtain ⟨A1, hs1, hA1⟩ := run_sliceTo (P := Try.prog) (t := 26) (e := 75) Try.underlying26 sizeNF (some ⟨g1, o1, none⟩) xs.length c k (by omega)
          obtain ⟨A2, hs2, hA2⟩ := run_sliceFrom (P := Try.prog) (t := 26) (e := 75) Try.underlying26 sizeNF (some ⟨g1, o1, none⟩) xs.length c k hk hcap8
          have HA1 := Lib.hid hA1
          have HA2 := Lib.hid hA2
          clear hEL hA1 hA2
          refine wp_region_G [15] (S := (fun w' => w'.cell? ⟨nb, 0, none⟩ = some (.int .i64 st) ∧ w'.cell? ⟨nb, 1, none⟩ = some (.slice (some ⟨g1, o1, none⟩) xs.length c) ∧ w'.cell? ⟨fb, 0, none⟩ = some (.int .i64 q) ∧ w'.cell? ⟨fb, 1, none⟩ = some (.slice (some ⟨gf, 0, none⟩) lf.length cf))) (by kernel_rfl) ?_ (fun hHeld => ?_)
          · first | exact ⟨k0, k1, f0, f1⟩ | exact ⟨(World.cell?_alloc_lt _ _ _ (by simp only; omega)).trans k0, (World.cell?_alloc_lt _ _ _ (by simp only; omega)).trans k1, (World.cell?_alloc_lt _ _ _ (by simp only; omega)).trans f0, (World.cell?_alloc_lt _ _ _ (by simp only; omega)).trans f1⟩
          refine wpAnyG_takeW [2, 4, 5, 8, 13, 14, 15] (i := 1) (d := some 92) (v := ?_) (by simp only [List.getElem?_toArray, List.getElem?_cons_succ, List.getElem?_cons_zero]; rfl) (by rfl) (by kernel_rfl) (by kernel_rfl) (by kernel_rfl) (by kernel_rfl) (by kernel_rfl) (by intro _ _ _ h; exact h) (by rfl) ?_ (by assumption) ?_
          rotate_left 1
          · (intro w hSw; (try dsimp only at hSw); go_simp; try (with_reducible rfl))
          (try simp only [Act.put, List.setIfInBounds_toArray, List.set_cons_zero, List.set_cons_succ])
          refine wpAnyG_takeW [4, 5, 8, 13, 14, 15] (i := 2) (d := some 93) (v := ?_) (by simp only [List.getElem?_toArray, List.getElem?_cons_succ, List.getElem?_cons_zero]; rfl) (by rfl) (by kernel_rfl) (by kernel_rfl) (by kernel_rfl) (by kernel_rfl) (by kernel_rfl) (by intro _ _ _ h; exact h) (by rfl) ?_ (by assumption) ?_
          rotate_left 1
          · (intro w hSw; (try dsimp only at hSw); go_simp; try (with_reducible rfl))
          (try simp only [Act.put, List.setIfInBounds_toArray, List.set_cons_zero, List.set_cons_succ])
          refine wpAnyG_takeW [4, 5, 8, 13, 14, 15] (i := 3) (d := some 94) (v := ?_) (by simp only [List.getElem?_toArray, List.getElem?_cons_succ, List.getElem?_cons_zero]; rfl) (by rfl) (by kernel_rfl) (by kernel_rfl) (by kernel_rfl) (by kernel_rfl) (by kernel_rfl) (by intro _ _ _ h; exact h) (by rfl) ?_ (by assumption) ?_
          rotate_left 1
          · (intro w hSw; (try dsimp only at hSw); go_simp; try (with_reducible rfl))
          (try simp only [Act.put, List.setIfInBounds_toArray, List.set_cons_zero, List.set_cons_succ])
          refine wpAnyG_takeW [5, 8, 13, 14, 15] (i := 4) (d := some 95) (v := ?_) (by simp only [List.getElem?_toArray, List.getElem?_cons_succ, List.getElem?_cons_zero]; rfl) (by rfl) (by kernel_rfl) (by kernel_rfl) (by kernel_rfl) (by kernel_rfl) (by kernel_rfl) (by intro _ _ _ h; exact h) (by rfl) ?_ (by assumption) ?_
          rotate_left 1
          · (intro w hSw; (try dsimp only at hSw); go_simp; try (with_reducible rfl))
          (try simp only [Act.put, List.setIfInBounds_toArray, List.set_cons_zero, List.set_cons_succ])
          refine wpAnyG_takeW [7, 8, 13, 14, 15] (i := 6) (d := some 97) (v := ?_) (by simp only [List.getElem?_toArray, List.getElem?_cons_succ, List.getElem?_cons_zero]; rfl) (by rfl) (by kernel_rfl) (by kernel_rfl) (by kernel_rfl) (by kernel_rfl) (by kernel_rfl) (by intro _ _ _ h; exact h) (by rfl) ?_ (by assumption) ?_
          rotate_left 1
          · (intro w hSw; (try dsimp only at hSw); go_simp; try (with_reducible rfl))
          (try simp only [Act.put, List.setIfInBounds_toArray, List.set_cons_zero, List.set_cons_succ])
          refine wpAnyG_takeW [10, 12, 13, 14, 15] (i := 9) (d := some 100) (v := ?_) (by simp only [List.getElem?_toArray, List.getElem?_cons_succ, List.getElem?_cons_zero]; rfl) (by rfl) (by kernel_rfl) (by kernel_rfl) (by kernel_rfl) (by kernel_rfl) (by kernel_rfl) (by intro _ _ _ h; exact h) (by rfl) ?_ (by assumption) ?_
          rotate_left 1
          · (intro w hSw; (try dsimp only at hSw); go_simp; try (with_reducible rfl))
          (try simp only [Act.put, List.setIfInBounds_toArray, List.set_cons_zero, List.set_cons_succ])
          refine wpAnyG_takeW [12, 13, 14, 15] (i := 10) (d := some 101) (v := ?_) (by simp only [List.getElem?_toArray, List.getElem?_cons_succ, List.getElem?_cons_zero]; rfl) (by rfl) (by kernel_rfl) (by kernel_rfl) (by kernel_rfl) (by kernel_rfl) (by kernel_rfl) (by intro _ _ _ h; exact h) (by rfl) ?_ (by assumption) ?_
          rotate_left 1
          · (intro w hSw; (try dsimp only at hSw); go_simp; try (with_reducible rfl))
          (try simp only [Act.put, List.setIfInBounds_toArray, List.set_cons_zero, List.set_cons_succ])
          refine wpAnyG_takeW [12, 13, 14, 15] (i := 11) (d := some 102) (v := ?_) (by simp only [List.getElem?_toArray, List.getElem?_cons_succ, List.getElem?_cons_zero]; rfl) (by rfl) (by kernel_rfl) (by kernel_rfl) (by kernel_rfl) (by kernel_rfl) (by kernel_rfl) (by intro _ _ _ h; exact h) (by rfl) ?_ (by assumption) ?_
          rotate_left 1
          · (intro w hSw; (try dsimp only at hSw); go_simp; try (with_reducible rfl))
          (try simp only [Act.put, List.setIfInBounds_toArray, List.set_cons_zero, List.set_cons_succ])
          refine wpAnyG_takeW [13, 14, 15] (i := 12) (d := some 103) (v := ?_) (by simp only [List.getElem?_toArray, List.getElem?_cons_succ, List.getElem?_cons_zero]; rfl) (by rfl) (by kernel_rfl) (by kernel_rfl) (by kernel_rfl) (by kernel_rfl) (by kernel_rfl) (by intro _ _ _ h; exact h) (by rfl) ?_ (by assumption) ?_
          rotate_left 1
          · (intro w hSw; (try dsimp only at hSw); go_simp; try (with_reducible rfl))
          (try simp only [Act.put, List.setIfInBounds_toArray, List.set_cons_zero, List.set_cons_succ])
          refine wpAnyG_ready (rs := [0, 7]) (by kernel_rfl) (by simp) ?_
          refine (AllReadyG.cons (i := 0) (by simp only [List.getElem?_toArray, List.getElem?_cons_succ, List.getElem?_cons_zero]; rfl) (fun K hK => ?_) (AllReadyG.cons (i := 7) (by simp only [List.getElem?_toArray, List.getElem?_cons_succ, List.getElem?_cons_zero]; rfl) (fun K hK => ?_) AllReadyG.nil))
          · go_simp
            go_wp2_with fail
            refine hK.out _ _ (fun _ => ?_) (fun hHeld => ?_)
            · ((try dsimp only); first | exact ⟨k0, k1, f0, f1⟩ | exact ⟨(World.cell?_alloc_lt _ _ _ (by simp only; omega)).trans k0, (World.cell?_alloc_lt _ _ _ (by simp only; omega)).trans k1, (World.cell?_alloc_lt _ _ _ (by simp only; omega)).trans f0, (World.cell?_alloc_lt _ _ _ (by simp only; omega)).trans f1⟩)
            replace hHeld := hHeld (by rfl)
            clear hK K
            (try simp only [Act.put, List.setIfInBounds_toArray, List.set_cons_zero, List.set_cons_succ])
            obtain ⟨v1, hv⟩ : ∃ v, v = (wE.alloc (.cells #[] 75)).drew := ⟨_, rfl⟩
            rw [← hv] at hHeld ⊢
            have hbv : Below wE.heap.size wE v1 := by rw [hv]; exact Below.drew (Below.alloc (Below.refl _ _) (Nat.le_refl _) _)
            have hsv1 : wE.heap.size < v1.heap.size := by rw [hv]; simp
            have HBVv1 := Lib.hid (hbv)
            obtain ⟨gn, hgn⟩ : ∃ gn, gn = wE.heap.size := ⟨_, rfl⟩
            have HON : Hid (OwS true 2 (EN true) 75 v1 (fun _ => False) wE.heap.size (some ⟨gn, 0, none⟩) 0 []) := Lib.hid (OwS.new (by omega) (by rw [hv, hgn]; exact World.heap_new _ _ _ rfl))
            replace k0 := (hbv.cell (p := ⟨nb, 0, none⟩) (by simp only; omega)).trans k0
            replace k1 := (hbv.cell (p := ⟨nb, 1, none⟩) (by simp only; omega)).trans k1
            replace f0 := (hbv.cell (p := ⟨fb, 0, none⟩) (by simp only; omega)).trans f0
            replace f1 := (hbv.cell (p := ⟨fb, 1, none⟩) (by simp only; omega)).trans f1
            clear hbv hv
            rw [← hgn]
            have hgn1 : wE.heap.size ≤ gn := Nat.le_of_eq hgn.symm
            have hgn2 : gn < v1.heap.size := by omega
            clear hgn
            refine wpAnyG_ready (rs := [5, 7]) (by kernel_rfl) (by simp) ?_
            refine (AllReadyG.cons (i := 5) (by simp only [List.getElem?_toArray, List.getElem?_cons_succ, List.getElem?_cons_zero]; rfl) (fun K hK => ?_) (AllReadyG.cons (i := 7) (by simp only [List.getElem?_toArray, List.getElem?_cons_succ, List.getElem?_cons_zero]; rfl) (fun K hK => ?_) AllReadyG.nil))
            · have HELV : Hid (Els 2 (EN true) v1 ga oa F xs) := Lib.hid (fun j hj => EN.framed (HEL.out j hj) (HGL.out (fun e => by rw [e] at hj; simp at hj)).1 (Chg.of_below (S := fun _ => False) HBVv1.out) (fun h => h) (fun _ _ h => h))
              have SRC : Hid (Src true 2 (EN true) v1 (fun _ => False) (fun b => ∃ j, j < k ∧ F j b) gn A1 (xs.take k)) := Lib.hid (Src.take k (fun h => HA1.out _ _ (HA.out h)) (fun h => by have := (HGL.out h).1; omega) HELV.out (fun j b hb => ⟨by have := HD1.out b (HFT.out j b hb); omega, by have := HD1.out b (HFT.out j b hb); omega, fun _ h => h⟩) HSEP.out)
              refine step_appW (R := EN true) (u := true) (w0 := v1) (xs := ([] : List NF)) (ys := (xs.take k)) (T := (fun _ => False)) (Fn := (fun b => ∃ j, j < k ∧ F j b)) rfl EN.mov EN.cls (.tmp 91) (.tmp 95) 26 rfl 75 i0 (.agg #[.int .i64 0, .slice none 0 0]) 32 Try.underlying26 hI0 hz0 hz1 hz2 (by simp [Value.cells]) (by decide) rfl HON.out (Below.refl _ _) (by rw [List.length_take, Nat.min_eq_left hk]; rfl) SRC.out (by have := HL8.out; simp only [List.length_nil, List.length_take]; omega) (by decide) (by omega) ?_
              intro gn5 cn5 v2 l5 HQ5 HOW5 HG5 HC5 HBg5
              have hsv2 := HC5.out.size
              have hltv2 := HOW5.out.lt
              have hgev2 := HOW5.out.ge
              have hgg5 : gn5 = gn ∨ gn5 = v1.heap.size := HG5.out
              have HBVv2 := Lib.hid (HBVv1.out.trans (HC5.out.below (by have := HBVv1.out.size; omega) (fun k hk => by omega)))
              replace k0 := (HC5.out.cell (p := ⟨nb, 0, none⟩) (by simp only; omega) (by simp only; omega)).trans k0
              replace k1 := (HC5.out.cell (p := ⟨nb, 1, none⟩) (by simp only; omega) (by simp only; omega)).trans k1
              replace f0 := (HC5.out.cell (p := ⟨fb, 0, none⟩) (by simp only; omega) (by simp only; omega)).trans f0
              replace f1 := (HC5.out.cell (p := ⟨fb, 1, none⟩) (by simp only; omega) (by simp only; omega)).trans f1
              clear SRC HC5 HBg5 HG5 HELV HON
              go_wp2_with fail
              refine hK.out _ _ (fun _ => ?_) (fun hHeld => ?_)
              · ((try dsimp only); first | exact ⟨k0, k1, f0, f1⟩ | exact ⟨(World.cell?_alloc_lt _ _ _ (by simp only; omega)).trans k0, (World.cell?_alloc_lt _ _ _ (by simp only; omega)).trans k1, (World.cell?_alloc_lt _ _ _ (by simp only; omega)).trans f0, (World.cell?_alloc_lt _ _ _ (by simp only; omega)).trans f1⟩)
              replace hHeld := hHeld (by rfl)
              clear hK K
              (try simp only [Act.put, List.setIfInBounds_toArray, List.set_cons_zero, List.set_cons_succ])
              refine wpAnyG_ready (rs := [7]) (by kernel_rfl) (by simp) ?_
              refine (AllReadyG.cons (i := 7) (by simp only [List.getElem?_toArray, List.getElem?_cons_succ, List.getElem?_cons_zero]; rfl) (fun K hK => ?_) AllReadyG.nil)
              go_simp
              go_wp2_with fail
              refine hK.out _ _ (fun _ => ?_) (fun hHeld => ?_)
              · ((try dsimp only); first | exact ⟨k0, k1, f0, f1⟩ | exact ⟨(World.cell?_alloc_lt _ _ _ (by simp only; omega)).trans k0, (World.cell?_alloc_lt _ _ _ (by simp only; omega)).trans k1, (World.cell?_alloc_lt _ _ _ (by simp only; omega)).trans f0, (World.cell?_alloc_lt _ _ _ (by simp only; omega)).trans f1⟩)
              replace hHeld := hHeld (by rfl)
              clear hK K
              (try simp only [Act.put, List.setIfInBounds_toArray, List.set_cons_zero, List.set_cons_succ])
              obtain ⟨v3, hv⟩ : ∃ v, v = v2.alloc (.cells #[.int .i64 q, .slice (some ⟨gf, 0, none⟩) lf.length cf] 75) := ⟨_, rfl⟩
              rw [← hv] at hHeld ⊢
              have hbv : Below v2.heap.size v2 v3 := by rw [hv]; exact Below.alloc (Below.refl _ _) (Nat.le_refl _) _
              have hsv3 : v2.heap.size < v3.heap.size := by rw [hv]; simp
              have HBVv3 := Lib.hid (HBVv2.out.trans (hbv.mono HBVv2.out.size))
              obtain ⟨gq, hgq⟩ : ∃ gq, gq = v2.heap.size := ⟨_, rfl⟩
              have HFB : Hid (v3.heap[gq]? = some (.cells #[.int .i64 q, .slice (some ⟨gf, 0, none⟩) lf.length cf] 75)) := Lib.hid (by rw [hv, hgq]; exact World.heap_new _ _ _ rfl)
              replace k0 := (hbv.cell (p := ⟨nb, 0, none⟩) (by simp only; omega)).trans k0
              replace k1 := (hbv.cell (p := ⟨nb, 1, none⟩) (by simp only; omega)).trans k1
              replace f0 := (hbv.cell (p := ⟨fb, 0, none⟩) (by simp only; omega)).trans f0
              replace f1 := (hbv.cell (p := ⟨fb, 1, none⟩) (by simp only; omega)).trans f1
              replace HOW5 := Lib.hid (OwS.below (R := EN true) EN.framed HOW5.out hbv)
              clear hbv hv
              rw [← hgq]
              have hgq1 : v2.heap.size ≤ gq := Nat.le_of_eq hgq.symm
              have hgq2 : gq < v3.heap.size := by omega
              clear hgq
              refine wpAnyG_ready (rs := [8]) (by kernel_rfl) (by simp) ?_
              refine (AllReadyG.cons (i := 8) (by simp only [List.getElem?_toArray, List.getElem?_cons_succ, List.getElem?_cons_zero]; rfl) (fun K hK => ?_) AllReadyG.nil)
              have SRC : Hid (Src true 2 (EN true) v3 (fun b => False ∨ ∃ j, j < k ∧ F j b) (fun b => b = gf) gn5 (some ⟨gq, 0, none⟩) [(q, lf)]) := Lib.hid (Src.one (by omega) (by have e0 := block_cell HFB.out 0; have e1 := block_cell HFB.out 1; exact ⟨e0.1, fun _ => e0.2, _, _, e1.1, fun _ => e1.2, HFR.out.below HBVv3.out⟩) (fun b hb => ⟨by omega, by omega, fun _ h => by rcases h with h | ⟨j, _, h⟩; exact h; have := HD1.out b (HFT.out j b h); omega⟩))
              refine step_appW (R := EN true) (u := true) (w0 := v3) (xs := l5) (ys := [(q, lf)]) (T := (fun b => False ∨ ∃ j, j < k ∧ F j b)) (Fn := (fun b => b = gf)) rfl EN.mov EN.cls (.tmp 96) (.tmp 98) 26 rfl 75 i0 (.agg #[.int .i64 0, .slice none 0 0]) 32 Try.underlying26 hI0 hz0 hz1 hz2 (by simp [Value.cells]) (by decide) rfl HOW5.out (Below.refl _ _) rfl SRC.out (by have := HL8.out; have := HQ5.out; rw [this]; simp; omega) (by decide) (by omega) ?_
              intro gn8 cn8 v4 l8 HQ8 HOW8 HG8 HC8 HBg8
              have hsv4 := HC8.out.size
              have hltv4 := HOW8.out.lt
              have hgev4 := HOW8.out.ge
              have hgg8 : gn8 = gn5 ∨ gn8 = v3.heap.size := HG8.out
              have HBVv4 := Lib.hid (HBVv3.out.trans (HC8.out.below (by have := HBVv3.out.size; omega) (fun k hk => by omega)))
              replace k0 := (HC8.out.cell (p := ⟨nb, 0, none⟩) (by simp only; omega) (by simp only; omega)).trans k0
              replace k1 := (HC8.out.cell (p := ⟨nb, 1, none⟩) (by simp only; omega) (by simp only; omega)).trans k1
              replace f0 := (HC8.out.cell (p := ⟨fb, 0, none⟩) (by simp only; omega) (by simp only; omega)).trans f0
              replace f1 := (HC8.out.cell (p := ⟨fb, 1, none⟩) (by simp only; omega) (by simp only; omega)).trans f1
              clear SRC HC8 HBg8 HG8 HOW5
              go_wp2_with fail
              refine hK.out _ _ (fun _ => ?_) (fun hHeld => ?_)
              · ((try dsimp only); first | exact ⟨k0, k1, f0, f1⟩ | exact ⟨(World.cell?_alloc_lt _ _ _ (by simp only; omega)).trans k0, (World.cell?_alloc_lt _ _ _ (by simp only; omega)).trans k1, (World.cell?_alloc_lt _ _ _ (by simp only; omega)).trans f0, (World.cell?_alloc_lt _ _ _ (by simp only; omega)).trans f1⟩)
              replace hHeld := hHeld (by rfl)
              clear hK K
              (try simp only [Act.put, List.setIfInBounds_toArray, List.set_cons_zero, List.set_cons_succ])
              refine wpAnyG_ready (rs := [13]) (by kernel_rfl) (by simp) ?_
              refine (AllReadyG.cons (i := 13) (by simp only [List.getElem?_toArray, List.getElem?_cons_succ, List.getElem?_cons_zero]; rfl) (fun K hK => ?_) AllReadyG.nil)
              have HELV : Hid (Els 2 (EN true) v4 ga oa F xs) := Lib.hid (fun j hj => EN.framed (HEL.out j hj) (HGL.out (fun e => by rw [e] at hj; simp at hj)).1 (Chg.of_below (S := fun _ => False) HBVv4.out) (fun h => h) (fun _ _ h => h))
              have SRC : Hid (Src true 2 (EN true) v4 (fun b => (False ∨ ∃ j, j < k ∧ F j b) ∨ b = gf) (fun b => ∃ j, k ≤ j ∧ F j b) gn8 A2 (xs.drop k)) := Lib.hid (Src.drop k (fun h => HA2.out _ _ (HA.out (fun e => by rw [e] at h; simp at h)) h) (fun h => by have := (HGL.out h).1; omega) HELV.out (fun j b hj hb => ⟨by have := HD1.out b (HFT.out j b hb); omega, by have := HD1.out b (HFT.out j b hb); omega, fun _ h => by rcases h with (h | ⟨j', h1, h2⟩) | h; exact h; have := HSEP.out _ _ b hb h2; omega; have := HD1.out b (HFT.out j b hb); omega⟩) HSEP.out)
              refine step_appW (R := EN true) (u := true) (w0 := v4) (xs := l8) (ys := (xs.drop k)) (T := (fun b => (False ∨ ∃ j, j < k ∧ F j b) ∨ b = gf)) (Fn := (fun b => ∃ j, k ≤ j ∧ F j b)) rfl EN.mov EN.cls (.tmp 99) (.tmp 103) 26 rfl 75 i0 (.agg #[.int .i64 0, .slice none 0 0]) 32 Try.underlying26 hI0 hz0 hz1 hz2 (by simp [Value.cells]) (by decide) rfl HOW8.out (Below.refl _ _) (by rw [List.length_drop]; rfl) SRC.out (by have := HL8.out; have := HQ8.out; have := HQ5.out; rw [HQ8.out, HQ5.out]; simp; omega) (by decide) (by omega) ?_
              intro gn13 cn13 v5 l13 HQ13 HOW13 HG13 HC13 HBg13
              have hsv5 := HC13.out.size
              have hltv5 := HOW13.out.lt
              have hgev5 := HOW13.out.ge
              have hgg13 : gn13 = gn8 ∨ gn13 = v4.heap.size := HG13.out
              have HBVv5 := Lib.hid (HBVv4.out.trans (HC13.out.below (by have := HBVv4.out.size; omega) (fun k hk => by omega)))
              replace k0 := (HC13.out.cell (p := ⟨nb, 0, none⟩) (by simp only; omega) (by simp only; omega)).trans k0
              replace k1 := (HC13.out.cell (p := ⟨nb, 1, none⟩) (by simp only; omega) (by simp only; omega)).trans k1
              replace f0 := (HC13.out.cell (p := ⟨fb, 0, none⟩) (by simp only; omega) (by simp only; omega)).trans f0
              replace f1 := (HC13.out.cell (p := ⟨fb, 1, none⟩) (by simp only; omega) (by simp only; omega)).trans f1
              clear SRC HC13 HBg13 HG13 HELV HOW8
              go_wp2_with fail
              refine hK.out _ _ (fun _ => ?_) (fun hHeld => ?_)
              · ((try dsimp only); first | exact ⟨k0, k1, f0, f1⟩ | exact ⟨(World.cell?_alloc_lt _ _ _ (by simp only; omega)).trans k0, (World.cell?_alloc_lt _ _ _ (by simp only; omega)).trans k1, (World.cell?_alloc_lt _ _ _ (by simp only; omega)).trans f0, (World.cell?_alloc_lt _ _ _ (by simp only; omega)).trans f1⟩)
              replace hHeld := hHeld (by rfl)
              clear hK K
              (try simp only [Act.put, List.setIfInBounds_toArray, List.set_cons_zero, List.set_cons_succ])
              obtain ⟨w10, hw10⟩ : ∃ w10, w10 = v5 := ⟨_, rfl⟩
              obtain ⟨gi, hgi0⟩ : ∃ gi, gi = gn13 := ⟨_, rfl⟩
              obtain ⟨ci, hci0⟩ : ∃ ci, ci = cn13 := ⟨_, rfl⟩
              obtain ⟨zs, hzs⟩ : ∃ zs, zs = l13 := ⟨_, rfl⟩
              have HOX := HOW13
              rw [← hw10, ← hgi0, ← hci0, ← hzs] at HOX
              rw [← hw10, ← hgi0, ← hci0, ← hzs]
              have HZ : Hid (zs = xs.take k ++ (q, lf) :: xs.drop k) := Lib.hid (by rw [hzs, HQ13.out, HQ8.out, HQ5.out]; simp)
              obtain ⟨Ti, HTi, HOI⟩ : ∃ Ti : Nat → Prop, Hid (∀ b, Ti b → (fun b => w.heap.size + 2 ≤ b ∧ b < nb) b ∨ b = gf) ∧ Hid (OwS true 2 (EN true) 75 w10 Ti wE.heap.size (some ⟨gi, 0, none⟩) ci zs) := ⟨_, Lib.hid (by
                rintro b (((h | ⟨j, _, h⟩) | h) | ⟨j, _, h⟩)
                · exact h.elim
                · exact .inl (HFT.out j b h)
                · exact .inr h
                · exact .inl (HFT.out j b h)), HOX⟩
              have HRZ : Hid (rcvS st q lf xs = relR st zs []) := Lib.hid (HRS.out _ (by rw [HINS.out, HZ.out]))
              have HZL : Hid (zs.length = xs.length + 1) := Lib.hid (by rw [HZ.out]; simp; omega)
              have HIC := Lib.hid HOI.out.cap
              have hbz := HBVv5.out
              rw [← hw10] at hbz
              have hs10 := hbz.size
              have hgi : wE.heap.size ≤ gi := HOI.out.ge
              have hgi2 : gi < w10.heap.size := HOI.out.lt
              have HB10 := Lib.hid (HBE.out.trans (hbz.mono HBE.out.size))
              have HO10 := Lib.hid (OwS.below (R := EB true) EB.framed HOE.out hbz)
              rw [← hw10] at k0 k1 f0 f1
              replace k2 := (hbz.frozen (p := ⟨nb, 0, none⟩) (by simp only; omega)).trans k2
              replace k3 := (hbz.frozen (p := ⟨nb, 1, none⟩) (by simp only; omega)).trans k3
              replace r0 := (hbz.cell (p := ⟨w.heap.size + 1, 0, none⟩) (by simp only; omega)).trans r0
              replace r1 := (hbz.cell (p := ⟨w.heap.size + 1, 1, none⟩) (by simp only; omega)).trans r1
              replace z0 := (hbz.frozen (p := ⟨w.heap.size + 1, 0, none⟩) (by simp only; omega)).trans z0
              replace z1 := (hbz.frozen (p := ⟨w.heap.size + 1, 1, none⟩) (by simp only; omega)).trans z1
              rw [← hw10] at hHeld
              clear hbz HOX HOW13 hw10 hgi0 hci0 hzs hgg5 hgg8 hgg13 hs1 hs2 hltv2 hgev2 hltv4 hgev4 hltv5 hgev5
              refine wpAnyG_takeW [15] (i := 14) (d := some 105) (v := ?_) (by simp only [List.getElem?_toArray, List.getElem?_cons_succ, List.getElem?_cons_zero]; rfl) (by rfl) (by kernel_rfl) (by kernel_rfl) (by kernel_rfl) (by kernel_rfl) (by kernel_rfl) (by intro _ _ _ h; exact h) (by rfl) ?_ (by assumption) ?_
              rotate_left 1
              · (intro w hSw; (try dsimp only at hSw); go_simp; try (with_reducible rfl))
              (try simp only [Act.put, List.setIfInBounds_toArray, List.set_cons_zero, List.set_cons_succ])
              refine wpAnyG_ready (rs := [15]) (by kernel_rfl) (by simp) ?_
              refine (AllReadyG.cons (i := 15) (by simp only [List.getElem?_toArray, List.getElem?_cons_succ, List.getElem?_cons_zero]; rfl) (fun K hK => ?_) AllReadyG.nil)
              go_simp
              go_wp2_with fail
              refine hK.out _ _ (fun h => by cases h) (fun _ => ?_)
              clear hK K
              (try simp only [Act.put, List.setIfInBounds_toArray, List.set_cons_zero, List.set_cons_succ])
              refine wpAnyG_done (by kernel_rfl) ?_ _
              have hst : Chg (fun b => b = nb) w10 (w10.setCell ⟨nb, 1, none⟩ (.slice (some ⟨gi, 0, none⟩) zs.length ci)) := Chg.setCell_ (S := fun b => b = nb) (Chg.refl _ _) (p := ⟨nb, 1, none⟩) rfl _
              have hss := hst.size
              have R0 := Lib.hid ((hst.cell (p := ⟨w.heap.size + 1, 0, none⟩) (by simp only; omega) (by simp only; omega)).trans r0)
              have R1 := Lib.hid ((hst.cell (p := ⟨w.heap.size + 1, 1, none⟩) (by simp only; omega) (by simp only; omega)).trans r1)
              have ZZ0 := Lib.hid ((hst.frozen (p := ⟨w.heap.size + 1, 0, none⟩) (by simp only; omega) (by simp only; omega)).trans z0)
              have ZZ1 := Lib.hid ((hst.frozen (p := ⟨w.heap.size + 1, 1, none⟩) (by simp only; omega) (by simp only; omega)).trans z1)
              have HBs := Lib.hid (HB10.out.trans (hst.below (by omega) (fun k hk => by omega)))
              have HOs := Lib.hid (OwS.frame (R := EB true) EB.framed HO10.out hst (fun b h1 h2 => by have := HD2.out b h1; omega) (fun a' ha' h2 => by injection ha' with ha'; subst ha'; simp only at h2; omega))
              have HTI2 : Hid (∀ b, Ti b → w.heap.size + 2 ≤ b ∧ b < wE.heap.size ∧ b ≠ nb ∧ b ≠ w2.heap.size ∧ ¬ (fun _ => False) b) := Lib.hid (fun b hb => by
                rcases HTi.out b hb with h | h
                · have := HD1.out b h; exact ⟨by omega, by omega, by omega, by omega, this.2.2.2.2⟩
                · exact ⟨by omega, by omega, by omega, by omega, fun h2 => by have := HD2.out b h2; omega⟩)
              have HIs := Lib.hid (OwS.slT (T := fun b => Ti b ∨ b = gi) (OwS.widerT (OwS.frame (R := EN true) EN.framed HOI.out hst (fun b h1 h2 => by have := HTI2.out b h1; omega) (fun a' ha' h2 => by injection ha' with ha'; subst ha'; simp only at h2; omega)) (fun b h _ => .inl h)) (fun a ha => by injection ha with ha; subst ha; exact .inr rfl))
              have HSPI := Lib.hid (HOI.out.spare.frame hst (fun a ha h2 => by injection ha with ha; subst ha; simp only at h2; omega))
              obtain ⟨z, hz⟩ : ∃ z, z = relR st zs [] := ⟨_, rfl⟩
              have HR2 := Lib.hid hz
              have HR : Hid (rcvS st q lf xs = z) := Lib.hid (by rw [HRZ.out, hz])
              have HSSz := Lib.hid hss
              have hne01 : ¬ nb = w.heap.size + 1 := by omega
              have hne10 : ¬ w.heap.size + 1 = nb := by omega
              clear hst r0 r1 z0 z1 hss hz
              go_wp2_with fail
              have hss := HSSz.out
              refine (specRelS_any (T1 := fun b => Ti b ∨ b = gi) (T2 := (fun _ => False)) st (some ⟨gi, 0, none⟩) ci zs w2.heap.size 0 [] (w.heap.size + 2) _ HIs.out HIC.out HSPI.out (by have h1 := HL8.out; have h2 := HLB.out; have h3 := HZL.out; omega) HOs.out (fun a ha => by injection ha with ha; subst ha; exact ⟨by simp only; omega, by simp only; omega⟩) (fun b hb => ?a1) (fun b hb => ?a2) (by omega)).mono ?_
              case a1 =>
                rcases hb with hb | hb
                · have h1 := HTI2.out b hb; exact ⟨by omega, h1.2.2.2.2, by omega⟩
                · exact ⟨by omega, fun h => by have := HD2.out b h; omega, by omega⟩
              case a2 => have h1 := HD2.out b hb; omega
              rw [← HR2.out]
              rintro e w12 ⟨A4, c4, gb4, cb4, T14, T24, rfl, hc4, hcap4, hd41, hd42, hs4, ho4, hgb, hspx, hspy⟩
              have hsz4 := hc4.size
              have r0 := (hc4.cell (p := ⟨w.heap.size + 1, 0, none⟩) (by simp only; omega) (by simp only; omega)).trans R0.out
              have r1 := (hc4.cell (p := ⟨w.heap.size + 1, 1, none⟩) (by simp only; omega) (by simp only; omega)).trans R1.out
              have z0 := (hc4.frozen (p := ⟨w.heap.size + 1, 0, none⟩) (by simp only; omega) (by simp only; omega)).trans ZZ0.out
              have z1 := (hc4.frozen (p := ⟨w.heap.size + 1, 1, none⟩) (by simp only; omega) (by simp only; omega)).trans ZZ1.out
              have HB4 := Lib.hid (HBs.out.trans (hc4.below (by omega) (fun k hk => by omega)))
              have HS4 := Lib.hid hs4
              have HSPX := Lib.hid hspx
              have HSPY : Hid (∀ a, A4 = some a → a.block = gi) := Lib.hid (fun a ha => by obtain ⟨a0, q1, q2⟩ := hspy a ha; injection q1 with q1; subst q1; exact q2)
              clear hspx hspy
              have HO4 := Lib.hid ho4
              have HD41 := Lib.hid hd41
              have HD42 := Lib.hid hd42
              have hge4 := ho4.ge
              have hlt4 := ho4.lt
              clear hc4 hs4 ho4 hd41 hd42 R0 R1 ZZ0 ZZ1
              have hfin : Chg (fun b => b = w.heap.size + 1) w12 ((w12.setCell ⟨w.heap.size + 1, 0, none⟩ (.int .i64 z.1)).setCell ⟨w.heap.size + 1, 1, none⟩ (.slice A4 z.2.1.length c4)) := Chg.setCell_ (S := fun b => b = w.heap.size + 1) (Chg.setCell_ (S := fun b => b = w.heap.size + 1) (Chg.refl _ _) (p := ⟨w.heap.size + 1, 0, none⟩) rfl _) (p := ⟨w.heap.size + 1, 1, none⟩) rfl _
              have hv0 : ((w12.setCell ⟨w.heap.size + 1, 0, none⟩ (.int .i64 z.1)).setCell ⟨w.heap.size + 1, 1, none⟩ (.slice A4 z.2.1.length c4)).cell? ⟨w.heap.size + 1, 0, none⟩ = some (.int .i64 z.1) := by rw [World.cell?_setCell_other _ _ _ _ (fun e => by injection e with _ e2; omega)]; exact World.cell?_setCell_same _ _ _ r0
              have hv1 : ((w12.setCell ⟨w.heap.size + 1, 0, none⟩ (.int .i64 z.1)).setCell ⟨w.heap.size + 1, 1, none⟩ (.slice A4 z.2.1.length c4)).cell? ⟨w.heap.size + 1, 1, none⟩ = some (.slice A4 z.2.1.length c4) := World.cell?_setCell_same (u := .slice none 0 0) _ _ _ (by rw [World.cell?_setCell_other _ _ _ _ (fun e => by injection e with _ e2; omega)]; exact r1)
              have HF := Lib.hid hfin
              have HV0 := Lib.hid hv0
              have HV1 := Lib.hid hv1
              clear hfin hv0 hv1
              go_simp
              repeat (first | go_skip | go_guarded | go_step | go_upon)
              refine bodyPost_ret (v := .tuple #[.agg #[.int .i64 z.1, .slice A4 z.2.1.length c4], .slice (some ⟨gb4, 0, none⟩) z.2.2.length cb4]) (by simp [results, Try.results22, go_sem, HV0.out, HV1.out]) rfl ?_
              rw [HR.out]
              have h1 := HF.out.size
              have t1 : ∀ b, T14 b → w.heap.size + 2 ≤ b ∧ b < w10.heap.size ∧ b ≠ w2.heap.size := fun b hb => by
                rcases (HD41.out b hb).1 with h | h
                · have := HTI2.out b h; exact ⟨by omega, by omega, by omega⟩
                · subst h; exact ⟨by omega, by omega, by omega⟩
              have t2 : ∀ b, T24 b → w.heap.size + 2 ≤ b ∧ b < w10.heap.size := fun b hb => by
                rcases HD42.out b hb with h | h | h
                · have := HD2.out b h; omega
                · have := HTI2.out b h; omega
                · subst h; omega
              refine ⟨A4, c4, gb4, cb4, T14, (fun b => T24 b ∨ b = gb4), rfl, HB4.out.trans (HF.out.below (by omega) (fun k hk => by omega)), hcap4, fun b hb => ⟨by have := t1 b hb; omega, by have := t1 b hb; omega, fun h => ?_⟩, fun b hb => ?_, Sl.frame (R := EN true) EN.framed HS4.out HF.out (fun b hb h2 => by have := t1 b hb; omega), ((OwS.frame (R := EB true) EB.framed HO4.out HF.out (fun b hb h2 => by have := t2 b hb; omega) (fun a' ha' h2 => by injection ha' with ha'; subst ha'; simp only at h2; omega)).lower (by omega)).widerT (fun b h1 h2 => .inl h1), .inr rfl, HSPX.out.frame HF.out (fun a ha h2 => by have := HSPY.out a ha; omega), fun a ha => by have := HSPY.out a ha; omega⟩
              · rcases h with h | h
                · exact (HD41.out b hb).2 h
                · have := t1 b hb; omega
              · rcases hb with h | h
                · have := t2 b h; omega
                · subst h; omega
            · go_simp
              go_wp2_with fail
              refine hK.out _ _ (fun _ => ?_) (fun hHeld => ?_)
              · ((try dsimp only); first | exact ⟨k0, k1, f0, f1⟩ | exact ⟨(World.cell?_alloc_lt _ _ _ (by simp only; omega)).trans k0, (World.cell?_alloc_lt _ _ _ (by simp only; omega)).trans k1, (World.cell?_alloc_lt _ _ _ (by simp only; omega)).trans f0, (World.cell?_alloc_lt _ _ _ (by simp only; omega)).trans f1⟩)
              replace hHeld := hHeld (by rfl)
              clear hK K
              (try simp only [Act.put, List.setIfInBounds_toArray, List.set_cons_zero, List.set_cons_succ])
              obtain ⟨v2, hv⟩ : ∃ v, v = v1.alloc (.cells #[.int .i64 q, .slice (some ⟨gf, 0, none⟩) lf.length cf] 75) := ⟨_, rfl⟩
              rw [← hv] at hHeld ⊢
              have hbv : Below v1.heap.size v1 v2 := by rw [hv]; exact Below.alloc (Below.refl _ _) (Nat.le_refl _) _
              have hsv2 : v1.heap.size < v2.heap.size := by rw [hv]; simp
              have HBVv2 := Lib.hid (HBVv1.out.trans (hbv.mono HBVv1.out.size))
              obtain ⟨gq, hgq⟩ : ∃ gq, gq = v1.heap.size := ⟨_, rfl⟩
              have HFB : Hid (v2.heap[gq]? = some (.cells #[.int .i64 q, .slice (some ⟨gf, 0, none⟩) lf.length cf] 75)) := Lib.hid (by rw [hv, hgq]; exact World.heap_new _ _ _ rfl)
              replace k0 := (hbv.cell (p := ⟨nb, 0, none⟩) (by simp only; omega)).trans k0
              replace k1 := (hbv.cell (p := ⟨nb, 1, none⟩) (by simp only; omega)).trans k1
              replace f0 := (hbv.cell (p := ⟨fb, 0, none⟩) (by simp only; omega)).trans f0
              replace f1 := (hbv.cell (p := ⟨fb, 1, none⟩) (by simp only; omega)).trans f1
              replace HON := Lib.hid (OwS.below (R := EN true) EN.framed HON.out hbv)
              clear hbv hv
              rw [← hgq]
              have hgq1 : v1.heap.size ≤ gq := Nat.le_of_eq hgq.symm
              have hgq2 : gq < v2.heap.size := by omega
              clear hgq
              refine wpAnyG_ready (rs := [5]) (by kernel_rfl) (by simp) ?_
              refine (AllReadyG.cons (i := 5) (by simp only [List.getElem?_toArray, List.getElem?_cons_succ, List.getElem?_cons_zero]; rfl) (fun K hK => ?_) AllReadyG.nil)
              have HELV : Hid (Els 2 (EN true) v2 ga oa F xs) := Lib.hid (fun j hj => EN.framed (HEL.out j hj) (HGL.out (fun e => by rw [e] at hj; simp at hj)).1 (Chg.of_below (S := fun _ => False) HBVv2.out) (fun h => h) (fun _ _ h => h))
              have SRC : Hid (Src true 2 (EN true) v2 (fun _ => False) (fun b => ∃ j, j < k ∧ F j b) gn A1 (xs.take k)) := Lib.hid (Src.take k (fun h => HA1.out _ _ (HA.out h)) (fun h => by have := (HGL.out h).1; omega) HELV.out (fun j b hb => ⟨by have := HD1.out b (HFT.out j b hb); omega, by have := HD1.out b (HFT.out j b hb); omega, fun _ h => h⟩) HSEP.out)
              refine step_appW (R := EN true) (u := true) (w0 := v2) (xs := ([] : List NF)) (ys := (xs.take k)) (T := (fun _ => False)) (Fn := (fun b => ∃ j, j < k ∧ F j b)) rfl EN.mov EN.cls (.tmp 91) (.tmp 95) 26 rfl 75 i0 (.agg #[.int .i64 0, .slice none 0 0]) 32 Try.underlying26 hI0 hz0 hz1 hz2 (by simp [Value.cells]) (by decide) rfl HON.out (Below.refl _ _) (by rw [List.length_take, Nat.min_eq_left hk]; rfl) SRC.out (by have := HL8.out; simp only [List.length_nil, List.length_take]; omega) (by decide) (by omega) ?_
              intro gn5 cn5 v3 l5 HQ5 HOW5 HG5 HC5 HBg5
              have hsv3 := HC5.out.size
              have hltv3 := HOW5.out.lt
              have hgev3 := HOW5.out.ge
              have hgg5 : gn5 = gn ∨ gn5 = v2.heap.size := HG5.out
              have HBVv3 := Lib.hid (HBVv2.out.trans (HC5.out.below (by have := HBVv2.out.size; omega) (fun k hk => by omega)))
              replace k0 := (HC5.out.cell (p := ⟨nb, 0, none⟩) (by simp only; omega) (by simp only; omega)).trans k0
              replace k1 := (HC5.out.cell (p := ⟨nb, 1, none⟩) (by simp only; omega) (by simp only; omega)).trans k1
              replace f0 := (HC5.out.cell (p := ⟨fb, 0, none⟩) (by simp only; omega) (by simp only; omega)).trans f0
              replace f1 := (HC5.out.cell (p := ⟨fb, 1, none⟩) (by simp only; omega) (by simp only; omega)).trans f1
              replace HFB := Lib.hid ((HC5.out.block gq (by omega) (by omega)).trans HFB.out)
              clear SRC HC5 HBg5 HG5 HELV HON
              go_wp2_with fail
              refine hK.out _ _ (fun _ => ?_) (fun hHeld => ?_)
              · ((try dsimp only); first | exact ⟨k0, k1, f0, f1⟩ | exact ⟨(World.cell?_alloc_lt _ _ _ (by simp only; omega)).trans k0, (World.cell?_alloc_lt _ _ _ (by simp only; omega)).trans k1, (World.cell?_alloc_lt _ _ _ (by simp only; omega)).trans f0, (World.cell?_alloc_lt _ _ _ (by simp only; omega)).trans f1⟩)
              replace hHeld := hHeld (by rfl)
              clear hK K
              (try simp only [Act.put, List.setIfInBounds_toArray, List.set_cons_zero, List.set_cons_succ])
              refine wpAnyG_ready (rs := [8]) (by kernel_rfl) (by simp) ?_
              refine (AllReadyG.cons (i := 8) (by simp only [List.getElem?_toArray, List.getElem?_cons_succ, List.getElem?_cons_zero]; rfl) (fun K hK => ?_) AllReadyG.nil)
              have SRC : Hid (Src true 2 (EN true) v3 (fun b => False ∨ ∃ j, j < k ∧ F j b) (fun b => b = gf) gn5 (some ⟨gq, 0, none⟩) [(q, lf)]) := Lib.hid (Src.one (by omega) (by have e0 := block_cell HFB.out 0; have e1 := block_cell HFB.out 1; exact ⟨e0.1, fun _ => e0.2, _, _, e1.1, fun _ => e1.2, HFR.out.below HBVv3.out⟩) (fun b hb => ⟨by omega, by omega, fun _ h => by rcases h with h | ⟨j, _, h⟩; exact h; have := HD1.out b (HFT.out j b h); omega⟩))
              refine step_appW (R := EN true) (u := true) (w0 := v3) (xs := l5) (ys := [(q, lf)]) (T := (fun b => False ∨ ∃ j, j < k ∧ F j b)) (Fn := (fun b => b = gf)) rfl EN.mov EN.cls (.tmp 96) (.tmp 98) 26 rfl 75 i0 (.agg #[.int .i64 0, .slice none 0 0]) 32 Try.underlying26 hI0 hz0 hz1 hz2 (by simp [Value.cells]) (by decide) rfl HOW5.out (Below.refl _ _) rfl SRC.out (by have := HL8.out; have := HQ5.out; rw [this]; simp; omega) (by decide) (by omega) ?_
              intro gn8 cn8 v4 l8 HQ8 HOW8 HG8 HC8 HBg8
              have hsv4 := HC8.out.size
              have hltv4 := HOW8.out.lt
              have hgev4 := HOW8.out.ge
              have hgg8 : gn8 = gn5 ∨ gn8 = v3.heap.size := HG8.out
              have HBVv4 := Lib.hid (HBVv3.out.trans (HC8.out.below (by have := HBVv3.out.size; omega) (fun k hk => by omega)))
              replace k0 := (HC8.out.cell (p := ⟨nb, 0, none⟩) (by simp only; omega) (by simp only; omega)).trans k0
              replace k1 := (HC8.out.cell (p := ⟨nb, 1, none⟩) (by simp only; omega) (by simp only; omega)).trans k1
              replace f0 := (HC8.out.cell (p := ⟨fb, 0, none⟩) (by simp only; omega) (by simp only; omega)).trans f0
              replace f1 := (HC8.out.cell (p := ⟨fb, 1, none⟩) (by simp only; omega) (by simp only; omega)).trans f1
              clear SRC HC8 HBg8 HG8 HOW5
              go_wp2_with fail
              refine hK.out _ _ (fun _ => ?_) (fun hHeld => ?_)
              · ((try dsimp only); first | exact ⟨k0, k1, f0, f1⟩ | exact ⟨(World.cell?_alloc_lt _ _ _ (by simp only; omega)).trans k0, (World.cell?_alloc_lt _ _ _ (by simp only; omega)).trans k1, (World.cell?_alloc_lt _ _ _ (by simp only; omega)).trans f0, (World.cell?_alloc_lt _ _ _ (by simp only; omega)).trans f1⟩)
              replace hHeld := hHeld (by rfl)
              clear hK K
              (try simp only [Act.put, List.setIfInBounds_toArray, List.set_cons_zero, List.set_cons_succ])
              refine wpAnyG_ready (rs := [13]) (by kernel_rfl) (by simp) ?_
              refine (AllReadyG.cons (i := 13) (by simp only [List.getElem?_toArray, List.getElem?_cons_succ, List.getElem?_cons_zero]; rfl) (fun K hK => ?_) AllReadyG.nil)
              have HELV : Hid (Els 2 (EN true) v4 ga oa F xs) := Lib.hid (fun j hj => EN.framed (HEL.out j hj) (HGL.out (fun e => by rw [e] at hj; simp at hj)).1 (Chg.of_below (S := fun _ => False) HBVv4.out) (fun h => h) (fun _ _ h => h))
              have SRC : Hid (Src true 2 (EN true) v4 (fun b => (False ∨ ∃ j, j < k ∧ F j b) ∨ b = gf) (fun b => ∃ j, k ≤ j ∧ F j b) gn8 A2 (xs.drop k)) := Lib.hid (Src.drop k (fun h => HA2.out _ _ (HA.out (fun e => by rw [e] at h; simp at h)) h) (fun h => by have := (HGL.out h).1; omega) HELV.out (fun j b hj hb => ⟨by have := HD1.out b (HFT.out j b hb); omega, by have := HD1.out b (HFT.out j b hb); omega, fun _ h => by rcases h with (h | ⟨j', h1, h2⟩) | h; exact h; have := HSEP.out _ _ b hb h2; omega; have := HD1.out b (HFT.out j b hb); omega⟩) HSEP.out)
              refine step_appW (R := EN true) (u := true) (w0 := v4) (xs := l8) (ys := (xs.drop k)) (T := (fun b => (False ∨ ∃ j, j < k ∧ F j b) ∨ b = gf)) (Fn := (fun b => ∃ j, k ≤ j ∧ F j b)) rfl EN.mov EN.cls (.tmp 99) (.tmp 103) 26 rfl 75 i0 (.agg #[.int .i64 0, .slice none 0 0]) 32 Try.underlying26 hI0 hz0 hz1 hz2 (by simp [Value.cells]) (by decide) rfl HOW8.out (Below.refl _ _) (by rw [List.length_drop]; rfl) SRC.out (by have := HL8.out; have := HQ8.out; have := HQ5.out; rw [HQ8.out, HQ5.out]; simp; omega) (by decide) (by omega) ?_
              intro gn13 cn13 v5 l13 HQ13 HOW13 HG13 HC13 HBg13
              have hsv5 := HC13.out.size
              have hltv5 := HOW13.out.lt
              have hgev5 := HOW13.out.ge
              have hgg13 : gn13 = gn8 ∨ gn13 = v4.heap.size := HG13.out
              have HBVv5 := Lib.hid (HBVv4.out.trans (HC13.out.below (by have := HBVv4.out.size; omega) (fun k hk => by omega)))
              replace k0 := (HC13.out.cell (p := ⟨nb, 0, none⟩) (by simp only; omega) (by simp only; omega)).trans k0
              replace k1 := (HC13.out.cell (p := ⟨nb, 1, none⟩) (by simp only; omega) (by simp only; omega)).trans k1
              replace f0 := (HC13.out.cell (p := ⟨fb, 0, none⟩) (by simp only; omega) (by simp only; omega)).trans f0
              replace f1 := (HC13.out.cell (p := ⟨fb, 1, none⟩) (by simp only; omega) (by simp only; omega)).trans f1
              clear SRC HC13 HBg13 HG13 HELV HOW8
              go_wp2_with fail
              refine hK.out _ _ (fun _ => ?_) (fun hHeld => ?_)
              · ((try dsimp only); first | exact ⟨k0, k1, f0, f1⟩ | exact ⟨(World.cell?_alloc_lt _ _ _ (by simp only; omega)).trans k0, (World.cell?_alloc_lt _ _ _ (by simp only; omega)).trans k1, (World.cell?_alloc_lt _ _ _ (by simp only; omega)).trans f0, (World.cell?_alloc_lt _ _ _ (by simp only; omega)).trans f1⟩)
              replace hHeld := hHeld (by rfl)
              clear hK K
              (try simp only [Act.put, List.setIfInBounds_toArray, List.set_cons_zero, List.set_cons_succ])
              obtain ⟨w10, hw10⟩ : ∃ w10, w10 = v5 := ⟨_, rfl⟩
              obtain ⟨gi, hgi0⟩ : ∃ gi, gi = gn13 := ⟨_, rfl⟩
              obtain ⟨ci, hci0⟩ : ∃ ci, ci = cn13 := ⟨_, rfl⟩
              obtain ⟨zs, hzs⟩ : ∃ zs, zs = l13 := ⟨_, rfl⟩
              have HOX := HOW13
              rw [← hw10, ← hgi0, ← hci0, ← hzs] at HOX
              rw [← hw10, ← hgi0, ← hci0, ← hzs]
              have HZ : Hid (zs = xs.take k ++ (q, lf) :: xs.drop k) := Lib.hid (by rw [hzs, HQ13.out, HQ8.out, HQ5.out]; simp)
              obtain ⟨Ti, HTi, HOI⟩ : ∃ Ti : Nat → Prop, Hid (∀ b, Ti b → (fun b => w.heap.size + 2 ≤ b ∧ b < nb) b ∨ b = gf) ∧ Hid (OwS true 2 (EN true) 75 w10 Ti wE.heap.size (some ⟨gi, 0, none⟩) ci zs) := ⟨_, Lib.hid (by
                rintro b (((h | ⟨j, _, h⟩) | h) | ⟨j, _, h⟩)
                · exact h.elim
                · exact .inl (HFT.out j b h)
                · exact .inr h
                · exact .inl (HFT.out j b h)), HOX⟩
              have HRZ : Hid (rcvS st q lf xs = relR st zs []) := Lib.hid (HRS.out _ (by rw [HINS.out, HZ.out]))
              have HZL : Hid (zs.length = xs.length + 1) := Lib.hid (by rw [HZ.out]; simp; omega)
              have HIC := Lib.hid HOI.out.cap
              have hbz := HBVv5.out
              rw [← hw10] at hbz
              have hs10 := hbz.size
              have hgi : wE.heap.size ≤ gi := HOI.out.ge
              have hgi2 : gi < w10.heap.size := HOI.out.lt
              have HB10 := Lib.hid (HBE.out.trans (hbz.mono HBE.out.size))
              have HO10 := Lib.hid (OwS.below (R := EB true) EB.framed HOE.out hbz)
              rw [← hw10] at k0 k1 f0 f1
              replace k2 := (hbz.frozen (p := ⟨nb, 0, none⟩) (by simp only; omega)).trans k2
              replace k3 := (hbz.frozen (p := ⟨nb, 1, none⟩) (by simp only; omega)).trans k3
              replace r0 := (hbz.cell (p := ⟨w.heap.size + 1, 0, none⟩) (by simp only; omega)).trans r0
              replace r1 := (hbz.cell (p := ⟨w.heap.size + 1, 1, none⟩) (by simp only; omega)).trans r1
              replace z0 := (hbz.frozen (p := ⟨w.heap.size + 1, 0, none⟩) (by simp only; omega)).trans z0
              replace z1 := (hbz.frozen (p := ⟨w.heap.size + 1, 1, none⟩) (by simp only; omega)).trans z1
              rw [← hw10] at hHeld
              clear hbz HOX HOW13 hw10 hgi0 hci0 hzs hgg5 hgg8 hgg13 hs1 hs2 hltv3 hgev3 hltv4 hgev4 hltv5 hgev5
              refine wpAnyG_takeW [15] (i := 14) (d := some 105) (v := ?_) (by simp only [List.getElem?_toArray, List.getElem?_cons_succ, List.getElem?_cons_zero]; rfl) (by rfl) (by kernel_rfl) (by kernel_rfl) (by kernel_rfl) (by kernel_rfl) (by kernel_rfl) (by intro _ _ _ h; exact h) (by rfl) ?_ (by assumption) ?_
              rotate_left 1
              · (intro w hSw; (try dsimp only at hSw); go_simp; try (with_reducible rfl))
              (try simp only [Act.put, List.setIfInBounds_toArray, List.set_cons_zero, List.set_cons_succ])
              refine wpAnyG_ready (rs := [15]) (by kernel_rfl) (by simp) ?_
              refine (AllReadyG.cons (i := 15) (by simp only [List.getElem?_toArray, List.getElem?_cons_succ, List.getElem?_cons_zero]; rfl) (fun K hK => ?_) AllReadyG.nil)
              go_simp
              go_wp2_with fail
              refine hK.out _ _ (fun h => by cases h) (fun _ => ?_)
              clear hK K
              (try simp only [Act.put, List.setIfInBounds_toArray, List.set_cons_zero, List.set_cons_succ])
              refine wpAnyG_done (by kernel_rfl) ?_ _
              have hst : Chg (fun b => b = nb) w10 (w10.setCell ⟨nb, 1, none⟩ (.slice (some ⟨gi, 0, none⟩) zs.length ci)) := Chg.setCell_ (S := fun b => b = nb) (Chg.refl _ _) (p := ⟨nb, 1, none⟩) rfl _
              have hss := hst.size
              have R0 := Lib.hid ((hst.cell (p := ⟨w.heap.size + 1, 0, none⟩) (by simp only; omega) (by simp only; omega)).trans r0)
              have R1 := Lib.hid ((hst.cell (p := ⟨w.heap.size + 1, 1, none⟩) (by simp only; omega) (by simp only; omega)).trans r1)
              have ZZ0 := Lib.hid ((hst.frozen (p := ⟨w.heap.size + 1, 0, none⟩) (by simp only; omega) (by simp only; omega)).trans z0)
              have ZZ1 := Lib.hid ((hst.frozen (p := ⟨w.heap.size + 1, 1, none⟩) (by simp only; omega) (by simp only; omega)).trans z1)
              have HBs := Lib.hid (HB10.out.trans (hst.below (by omega) (fun k hk => by omega)))
              have HOs := Lib.hid (OwS.frame (R := EB true) EB.framed HO10.out hst (fun b h1 h2 => by have := HD2.out b h1; omega) (fun a' ha' h2 => by injection ha' with ha'; subst ha'; simp only at h2; omega))
              have HTI2 : Hid (∀ b, Ti b → w.heap.size + 2 ≤ b ∧ b < wE.heap.size ∧ b ≠ nb ∧ b ≠ w2.heap.size ∧ ¬ (fun _ => False) b) := Lib.hid (fun b hb => by
                rcases HTi.out b hb with h | h
                · have := HD1.out b h; exact ⟨by omega, by omega, by omega, by omega, this.2.2.2.2⟩
                · exact ⟨by omega, by omega, by omega, by omega, fun h2 => by have := HD2.out b h2; omega⟩)
              have HIs := Lib.hid (OwS.slT (T := fun b => Ti b ∨ b = gi) (OwS.widerT (OwS.frame (R := EN true) EN.framed HOI.out hst (fun b h1 h2 => by have := HTI2.out b h1; omega) (fun a' ha' h2 => by injection ha' with ha'; subst ha'; simp only at h2; omega)) (fun b h _ => .inl h)) (fun a ha => by injection ha with ha; subst ha; exact .inr rfl))
              have HSPI := Lib.hid (HOI.out.spare.frame hst (fun a ha h2 => by injection ha with ha; subst ha; simp only at h2; omega))
              obtain ⟨z, hz⟩ : ∃ z, z = relR st zs [] := ⟨_, rfl⟩
              have HR2 := Lib.hid hz
              have HR : Hid (rcvS st q lf xs = z) := Lib.hid (by rw [HRZ.out, hz])
              have HSSz := Lib.hid hss
              have hne01 : ¬ nb = w.heap.size + 1 := by omega
              have hne10 : ¬ w.heap.size + 1 = nb := by omega
              clear hst r0 r1 z0 z1 hss hz
              go_wp2_with fail
              have hss := HSSz.out
              refine (specRelS_any (T1 := fun b => Ti b ∨ b = gi) (T2 := (fun _ => False)) st (some ⟨gi, 0, none⟩) ci zs w2.heap.size 0 [] (w.heap.size + 2) _ HIs.out HIC.out HSPI.out (by have h1 := HL8.out; have h2 := HLB.out; have h3 := HZL.out; omega) HOs.out (fun a ha => by injection ha with ha; subst ha; exact ⟨by simp only; omega, by simp only; omega⟩) (fun b hb => ?a1) (fun b hb => ?a2) (by omega)).mono ?_
              case a1 =>
                rcases hb with hb | hb
                · have h1 := HTI2.out b hb; exact ⟨by omega, h1.2.2.2.2, by omega⟩
                · exact ⟨by omega, fun h => by have := HD2.out b h; omega, by omega⟩
              case a2 => have h1 := HD2.out b hb; omega
              rw [← HR2.out]
              rintro e w12 ⟨A4, c4, gb4, cb4, T14, T24, rfl, hc4, hcap4, hd41, hd42, hs4, ho4, hgb, hspx, hspy⟩
              have hsz4 := hc4.size
              have r0 := (hc4.cell (p := ⟨w.heap.size + 1, 0, none⟩) (by simp only; omega) (by simp only; omega)).trans R0.out
              have r1 := (hc4.cell (p := ⟨w.heap.size + 1, 1, none⟩) (by simp only; omega) (by simp only; omega)).trans R1.out
              have z0 := (hc4.frozen (p := ⟨w.heap.size + 1, 0, none⟩) (by simp only; omega) (by simp only; omega)).trans ZZ0.out
              have z1 := (hc4.frozen (p := ⟨w.heap.size + 1, 1, none⟩) (by simp only; omega) (by simp only; omega)).trans ZZ1.out
              have HB4 := Lib.hid (HBs.out.trans (hc4.below (by omega) (fun k hk => by omega)))
              have HS4 := Lib.hid hs4
              have HSPX := Lib.hid hspx
              have HSPY : Hid (∀ a, A4 = some a → a.block = gi) := Lib.hid (fun a ha => by obtain ⟨a0, q1, q2⟩ := hspy a ha; injection q1 with q1; subst q1; exact q2)
              clear hspx hspy
              have HO4 := Lib.hid ho4
              have HD41 := Lib.hid hd41
              have HD42 := Lib.hid hd42
              have hge4 := ho4.ge
              have hlt4 := ho4.lt
              clear hc4 hs4 ho4 hd41 hd42 R0 R1 ZZ0 ZZ1
              have hfin : Chg (fun b => b = w.heap.size + 1) w12 ((w12.setCell ⟨w.heap.size + 1, 0, none⟩ (.int .i64 z.1)).setCell ⟨w.heap.size + 1, 1, none⟩ (.slice A4 z.2.1.length c4)) := Chg.setCell_ (S := fun b => b = w.heap.size + 1) (Chg.setCell_ (S := fun b => b = w.heap.size + 1) (Chg.refl _ _) (p := ⟨w.heap.size + 1, 0, none⟩) rfl _) (p := ⟨w.heap.size + 1, 1, none⟩) rfl _
              have hv0 : ((w12.setCell ⟨w.heap.size + 1, 0, none⟩ (.int .i64 z.1)).setCell ⟨w.heap.size + 1, 1, none⟩ (.slice A4 z.2.1.length c4)).cell? ⟨w.heap.size + 1, 0, none⟩ = some (.int .i64 z.1) := by rw [World.cell?_setCell_other _ _ _ _ (fun e => by injection e with _ e2; omega)]; exact World.cell?_setCell_same _ _ _ r0
              have hv1 : ((w12.setCell ⟨w.heap.size + 1, 0, none⟩ (.int .i64 z.1)).setCell ⟨w.heap.size + 1, 1, none⟩ (.slice A4 z.2.1.length c4)).cell? ⟨w.heap.size + 1, 1, none⟩ = some (.slice A4 z.2.1.length c4) := World.cell?_setCell_same (u := .slice none 0 0) _ _ _ (by rw [World.cell?_setCell_other _ _ _ _ (fun e => by injection e with _ e2; omega)]; exact r1)
              have HF := Lib.hid hfin
              have HV0 := Lib.hid hv0
              have HV1 := Lib.hid hv1
              clear hfin hv0 hv1
              go_simp
              repeat (first | go_skip | go_guarded | go_step | go_upon)
              refine bodyPost_ret (v := .tuple #[.agg #[.int .i64 z.1, .slice A4 z.2.1.length c4], .slice (some ⟨gb4, 0, none⟩) z.2.2.length cb4]) (by simp [results, Try.results22, go_sem, HV0.out, HV1.out]) rfl ?_
              rw [HR.out]
              have h1 := HF.out.size
              have t1 : ∀ b, T14 b → w.heap.size + 2 ≤ b ∧ b < w10.heap.size ∧ b ≠ w2.heap.size := fun b hb => by
                rcases (HD41.out b hb).1 with h | h
                · have := HTI2.out b h; exact ⟨by omega, by omega, by omega⟩
                · subst h; exact ⟨by omega, by omega, by omega⟩
              have t2 : ∀ b, T24 b → w.heap.size + 2 ≤ b ∧ b < w10.heap.size := fun b hb => by
                rcases HD42.out b hb with h | h | h
                · have := HD2.out b h; omega
                · have := HTI2.out b h; omega
                · subst h; omega
              refine ⟨A4, c4, gb4, cb4, T14, (fun b => T24 b ∨ b = gb4), rfl, HB4.out.trans (HF.out.below (by omega) (fun k hk => by omega)), hcap4, fun b hb => ⟨by have := t1 b hb; omega, by have := t1 b hb; omega, fun h => ?_⟩, fun b hb => ?_, Sl.frame (R := EN true) EN.framed HS4.out HF.out (fun b hb h2 => by have := t1 b hb; omega), ((OwS.frame (R := EB true) EB.framed HO4.out HF.out (fun b hb h2 => by have := t2 b hb; omega) (fun a' ha' h2 => by injection ha' with ha'; subst ha'; simp only at h2; omega)).lower (by omega)).widerT (fun b h1 h2 => .inl h1), .inr rfl, HSPX.out.frame HF.out (fun a ha h2 => by have := HSPY.out a ha; omega), fun a ha => by have := HSPY.out a ha; omega⟩
              · rcases h with h | h
                · exact (HD41.out b hb).2 h
                · have := t1 b hb; omega
              · rcases hb with h | h
                · have := t2 b h; omega
                · subst h; omega
          · go_simp
            go_wp2_with fail
            refine hK.out _ _ (fun _ => ?_) (fun hHeld => ?_)
            · ((try dsimp only); first | exact ⟨k0, k1, f0, f1⟩ | exact ⟨(World.cell?_alloc_lt _ _ _ (by simp only; omega)).trans k0, (World.cell?_alloc_lt _ _ _ (by simp only; omega)).trans k1, (World.cell?_alloc_lt _ _ _ (by simp only; omega)).trans f0, (World.cell?_alloc_lt _ _ _ (by simp only; omega)).trans f1⟩)
            replace hHeld := hHeld (by rfl)
            clear hK K
            (try simp only [Act.put, List.setIfInBounds_toArray, List.set_cons_zero, List.set_cons_succ])
            obtain ⟨v1, hv⟩ : ∃ v, v = (wE.alloc (.cells #[.int .i64 q, .slice (some ⟨gf, 0, none⟩) lf.length cf] 75)).drew := ⟨_, rfl⟩
            rw [← hv] at hHeld ⊢
            have hbv : Below wE.heap.size wE v1 := by rw [hv]; exact Below.drew (Below.alloc (Below.refl _ _) (Nat.le_refl _) _)
            have hsv1 : wE.heap.size < v1.heap.size := by rw [hv]; simp
            have HBVv1 := Lib.hid (hbv)
            obtain ⟨gq, hgq⟩ : ∃ gq, gq = wE.heap.size := ⟨_, rfl⟩
            have HFB : Hid (v1.heap[gq]? = some (.cells #[.int .i64 q, .slice (some ⟨gf, 0, none⟩) lf.length cf] 75)) := Lib.hid (by rw [hv, hgq]; exact World.heap_new _ _ _ rfl)
            replace k0 := (hbv.cell (p := ⟨nb, 0, none⟩) (by simp only; omega)).trans k0
            replace k1 := (hbv.cell (p := ⟨nb, 1, none⟩) (by simp only; omega)).trans k1
            replace f0 := (hbv.cell (p := ⟨fb, 0, none⟩) (by simp only; omega)).trans f0
            replace f1 := (hbv.cell (p := ⟨fb, 1, none⟩) (by simp only; omega)).trans f1
            clear hbv hv
            rw [← hgq]
            have hgq1 : wE.heap.size ≤ gq := Nat.le_of_eq hgq.symm
            have hgq2 : gq < v1.heap.size := by omega
            clear hgq
            refine wpAnyG_ready (rs := [0]) (by kernel_rfl) (by simp) ?_
            refine (AllReadyG.cons (i := 0) (by simp only [List.getElem?_toArray, List.getElem?_cons_succ, List.getElem?_cons_zero]; rfl) (fun K hK => ?_) AllReadyG.nil)
            go_simp
            go_wp2_with fail
            refine hK.out _ _ (fun _ => ?_) (fun hHeld => ?_)
            · ((try dsimp only); first | exact ⟨k0, k1, f0, f1⟩ | exact ⟨(World.cell?_alloc_lt _ _ _ (by simp only; omega)).trans k0, (World.cell?_alloc_lt _ _ _ (by simp only; omega)).trans k1, (World.cell?_alloc_lt _ _ _ (by simp only; omega)).trans f0, (World.cell?_alloc_lt _ _ _ (by simp only; omega)).trans f1⟩)
            replace hHeld := hHeld (by rfl)
            clear hK K
            (try simp only [Act.put, List.setIfInBounds_toArray, List.set_cons_zero, List.set_cons_succ])
            obtain ⟨v2, hv⟩ : ∃ v, v = v1.alloc (.cells #[] 75) := ⟨_, rfl⟩
            rw [← hv] at hHeld ⊢
            have hbv : Below v1.heap.size v1 v2 := by rw [hv]; exact Below.alloc (Below.refl _ _) (Nat.le_refl _) _
            have hsv2 : v1.heap.size < v2.heap.size := by rw [hv]; simp
            have HBVv2 := Lib.hid (HBVv1.out.trans (hbv.mono HBVv1.out.size))
            obtain ⟨gn, hgn⟩ : ∃ gn, gn = v1.heap.size := ⟨_, rfl⟩
            have HON : Hid (OwS true 2 (EN true) 75 v2 (fun _ => False) wE.heap.size (some ⟨gn, 0, none⟩) 0 []) := Lib.hid (OwS.new (by omega) (by rw [hv, hgn]; exact World.heap_new _ _ _ rfl))
            replace k0 := (hbv.cell (p := ⟨nb, 0, none⟩) (by simp only; omega)).trans k0
            replace k1 := (hbv.cell (p := ⟨nb, 1, none⟩) (by simp only; omega)).trans k1
            replace f0 := (hbv.cell (p := ⟨fb, 0, none⟩) (by simp only; omega)).trans f0
            replace f1 := (hbv.cell (p := ⟨fb, 1, none⟩) (by simp only; omega)).trans f1
            replace HFB := Lib.hid ((hbv.block gq (by omega)).trans HFB.out)
            clear hbv hv
            rw [← hgn]
            have hgn1 : v1.heap.size ≤ gn := Nat.le_of_eq hgn.symm
            have hgn2 : gn < v2.heap.size := by omega
            clear hgn
            refine wpAnyG_ready (rs := [5]) (by kernel_rfl) (by simp) ?_
            refine (AllReadyG.cons (i := 5) (by simp only [List.getElem?_toArray, List.getElem?_cons_succ, List.getElem?_cons_zero]; rfl) (fun K hK => ?_) AllReadyG.nil)
            have HELV : Hid (Els 2 (EN true) v2 ga oa F xs) := Lib.hid (fun j hj => EN.framed (HEL.out j hj) (HGL.out (fun e => by rw [e] at hj; simp at hj)).1 (Chg.of_below (S := fun _ => False) HBVv2.out) (fun h => h) (fun _ _ h => h))
            have SRC : Hid (Src true 2 (EN true) v2 (fun _ => False) (fun b => ∃ j, j < k ∧ F j b) gn A1 (xs.take k)) := Lib.hid (Src.take k (fun h => HA1.out _ _ (HA.out h)) (fun h => by have := (HGL.out h).1; omega) HELV.out (fun j b hb => ⟨by have := HD1.out b (HFT.out j b hb); omega, by have := HD1.out b (HFT.out j b hb); omega, fun _ h => h⟩) HSEP.out)
            refine step_appW (R := EN true) (u := true) (w0 := v2) (xs := ([] : List NF)) (ys := (xs.take k)) (T := (fun _ => False)) (Fn := (fun b => ∃ j, j < k ∧ F j b)) rfl EN.mov EN.cls (.tmp 91) (.tmp 95) 26 rfl 75 i0 (.agg #[.int .i64 0, .slice none 0 0]) 32 Try.underlying26 hI0 hz0 hz1 hz2 (by simp [Value.cells]) (by decide) rfl HON.out (Below.refl _ _) (by rw [List.length_take, Nat.min_eq_left hk]; rfl) SRC.out (by have := HL8.out; simp only [List.length_nil, List.length_take]; omega) (by decide) (by omega) ?_
            intro gn5 cn5 v3 l5 HQ5 HOW5 HG5 HC5 HBg5
            have hsv3 := HC5.out.size
            have hltv3 := HOW5.out.lt
            have hgev3 := HOW5.out.ge
            have hgg5 : gn5 = gn ∨ gn5 = v2.heap.size := HG5.out
            have HBVv3 := Lib.hid (HBVv2.out.trans (HC5.out.below (by have := HBVv2.out.size; omega) (fun k hk => by omega)))
            replace k0 := (HC5.out.cell (p := ⟨nb, 0, none⟩) (by simp only; omega) (by simp only; omega)).trans k0
            replace k1 := (HC5.out.cell (p := ⟨nb, 1, none⟩) (by simp only; omega) (by simp only; omega)).trans k1
            replace f0 := (HC5.out.cell (p := ⟨fb, 0, none⟩) (by simp only; omega) (by simp only; omega)).trans f0
            replace f1 := (HC5.out.cell (p := ⟨fb, 1, none⟩) (by simp only; omega) (by simp only; omega)).trans f1
            replace HFB := Lib.hid ((HC5.out.block gq (by omega) (by omega)).trans HFB.out)
            clear SRC HC5 HBg5 HG5 HELV HON
            go_wp2_with fail
            refine hK.out _ _ (fun _ => ?_) (fun hHeld => ?_)
            · ((try dsimp only); first | exact ⟨k0, k1, f0, f1⟩ | exact ⟨(World.cell?_alloc_lt _ _ _ (by simp only; omega)).trans k0, (World.cell?_alloc_lt _ _ _ (by simp only; omega)).trans k1, (World.cell?_alloc_lt _ _ _ (by simp only; omega)).trans f0, (World.cell?_alloc_lt _ _ _ (by simp only; omega)).trans f1⟩)
            replace hHeld := hHeld (by rfl)
            clear hK K
            (try simp only [Act.put, List.setIfInBounds_toArray, List.set_cons_zero, List.set_cons_succ])
            refine wpAnyG_ready (rs := [8]) (by kernel_rfl) (by simp) ?_
            refine (AllReadyG.cons (i := 8) (by simp only [List.getElem?_toArray, List.getElem?_cons_succ, List.getElem?_cons_zero]; rfl) (fun K hK => ?_) AllReadyG.nil)
            have SRC : Hid (Src true 2 (EN true) v3 (fun b => False ∨ ∃ j, j < k ∧ F j b) (fun b => b = gf) gn5 (some ⟨gq, 0, none⟩) [(q, lf)]) := Lib.hid (Src.one (by omega) (by have e0 := block_cell HFB.out 0; have e1 := block_cell HFB.out 1; exact ⟨e0.1, fun _ => e0.2, _, _, e1.1, fun _ => e1.2, HFR.out.below HBVv3.out⟩) (fun b hb => ⟨by omega, by omega, fun _ h => by rcases h with h | ⟨j, _, h⟩; exact h; have := HD1.out b (HFT.out j b h); omega⟩))
            refine step_appW (R := EN true) (u := true) (w0 := v3) (xs := l5) (ys := [(q, lf)]) (T := (fun b => False ∨ ∃ j, j < k ∧ F j b)) (Fn := (fun b => b = gf)) rfl EN.mov EN.cls (.tmp 96) (.tmp 98) 26 rfl 75 i0 (.agg #[.int .i64 0, .slice none 0 0]) 32 Try.underlying26 hI0 hz0 hz1 hz2 (by simp [Value.cells]) (by decide) rfl HOW5.out (Below.refl _ _) rfl SRC.out (by have := HL8.out; have := HQ5.out; rw [this]; simp; omega) (by decide) (by omega) ?_
            intro gn8 cn8 v4 l8 HQ8 HOW8 HG8 HC8 HBg8
            have hsv4 := HC8.out.size
            have hltv4 := HOW8.out.lt
            have hgev4 := HOW8.out.ge
            have hgg8 : gn8 = gn5 ∨ gn8 = v3.heap.size := HG8.out
            have HBVv4 := Lib.hid (HBVv3.out.trans (HC8.out.below (by have := HBVv3.out.size; omega) (fun k hk => by omega)))
            replace k0 := (HC8.out.cell (p := ⟨nb, 0, none⟩) (by simp only; omega) (by simp only; omega)).trans k0
            replace k1 := (HC8.out.cell (p := ⟨nb, 1, none⟩) (by simp only; omega) (by simp only; omega)).trans k1
            replace f0 := (HC8.out.cell (p := ⟨fb, 0, none⟩) (by simp only; omega) (by simp only; omega)).trans f0
            replace f1 := (HC8.out.cell (p := ⟨fb, 1, none⟩) (by simp only; omega) (by simp only; omega)).trans f1
            clear SRC HC8 HBg8 HG8 HOW5
            go_wp2_with fail
            refine hK.out _ _ (fun _ => ?_) (fun hHeld => ?_)
            · ((try dsimp only); first | exact ⟨k0, k1, f0, f1⟩ | exact ⟨(World.cell?_alloc_lt _ _ _ (by simp only; omega)).trans k0, (World.cell?_alloc_lt _ _ _ (by simp only; omega)).trans k1, (World.cell?_alloc_lt _ _ _ (by simp only; omega)).trans f0, (World.cell?_alloc_lt _ _ _ (by simp only; omega)).trans f1⟩)
            replace hHeld := hHeld (by rfl)
            clear hK K
            (try simp only [Act.put, List.setIfInBounds_toArray, List.set_cons_zero, List.set_cons_succ])
            refine wpAnyG_ready (rs := [13]) (by kernel_rfl) (by simp) ?_
            refine (AllReadyG.cons (i := 13) (by simp only [List.getElem?_toArray, List.getElem?_cons_succ, List.getElem?_cons_zero]; rfl) (fun K hK => ?_) AllReadyG.nil)
            have HELV : Hid (Els 2 (EN true) v4 ga oa F xs) := Lib.hid (fun j hj => EN.framed (HEL.out j hj) (HGL.out (fun e => by rw [e] at hj; simp at hj)).1 (Chg.of_below (S := fun _ => False) HBVv4.out) (fun h => h) (fun _ _ h => h))
            have SRC : Hid (Src true 2 (EN true) v4 (fun b => (False ∨ ∃ j, j < k ∧ F j b) ∨ b = gf) (fun b => ∃ j, k ≤ j ∧ F j b) gn8 A2 (xs.drop k)) := Lib.hid (Src.drop k (fun h => HA2.out _ _ (HA.out (fun e => by rw [e] at h; simp at h)) h) (fun h => by have := (HGL.out h).1; omega) HELV.out (fun j b hj hb => ⟨by have := HD1.out b (HFT.out j b hb); omega, by have := HD1.out b (HFT.out j b hb); omega, fun _ h => by rcases h with (h | ⟨j', h1, h2⟩) | h; exact h; have := HSEP.out _ _ b hb h2; omega; have := HD1.out b (HFT.out j b hb); omega⟩) HSEP.out)
            refine step_appW (R := EN true) (u := true) (w0 := v4) (xs := l8) (ys := (xs.drop k)) (T := (fun b => (False ∨ ∃ j, j < k ∧ F j b) ∨ b = gf)) (Fn := (fun b => ∃ j, k ≤ j ∧ F j b)) rfl EN.mov EN.cls (.tmp 99) (.tmp 103) 26 rfl 75 i0 (.agg #[.int .i64 0, .slice none 0 0]) 32 Try.underlying26 hI0 hz0 hz1 hz2 (by simp [Value.cells]) (by decide) rfl HOW8.out (Below.refl _ _) (by rw [List.length_drop]; rfl) SRC.out (by have := HL8.out; have := HQ8.out; have := HQ5.out; rw [HQ8.out, HQ5.out]; simp; omega) (by decide) (by omega) ?_
            intro gn13 cn13 v5 l13 HQ13 HOW13 HG13 HC13 HBg13
            have hsv5 := HC13.out.size
            have hltv5 := HOW13.out.lt
            have hgev5 := HOW13.out.ge
            have hgg13 : gn13 = gn8 ∨ gn13 = v4.heap.size := HG13.out
            have HBVv5 := Lib.hid (HBVv4.out.trans (HC13.out.below (by have := HBVv4.out.size; omega) (fun k hk => by omega)))
            replace k0 := (HC13.out.cell (p := ⟨nb, 0, none⟩) (by simp only; omega) (by simp only; omega)).trans k0
            replace k1 := (HC13.out.cell (p := ⟨nb, 1, none⟩) (by simp only; omega) (by simp only; omega)).trans k1
            replace f0 := (HC13.out.cell (p := ⟨fb, 0, none⟩) (by simp only; omega) (by simp only; omega)).trans f0
            replace f1 := (HC13.out.cell (p := ⟨fb, 1, none⟩) (by simp only; omega) (by simp only; omega)).trans f1
            clear SRC HC13 HBg13 HG13 HELV HOW8
            go_wp2_with fail
            refine hK.out _ _ (fun _ => ?_) (fun hHeld => ?_)
            · ((try dsimp only); first | exact ⟨k0, k1, f0, f1⟩ | exact ⟨(World.cell?_alloc_lt _ _ _ (by simp only; omega)).trans k0, (World.cell?_alloc_lt _ _ _ (by simp only; omega)).trans k1, (World.cell?_alloc_lt _ _ _ (by simp only; omega)).trans f0, (World.cell?_alloc_lt _ _ _ (by simp only; omega)).trans f1⟩)
            replace hHeld := hHeld (by rfl)
            clear hK K
            (try simp only [Act.put, List.setIfInBounds_toArray, List.set_cons_zero, List.set_cons_succ])
            obtain ⟨w10, hw10⟩ : ∃ w10, w10 = v5 := ⟨_, rfl⟩
            obtain ⟨gi, hgi0⟩ : ∃ gi, gi = gn13 := ⟨_, rfl⟩
            obtain ⟨ci, hci0⟩ : ∃ ci, ci = cn13 := ⟨_, rfl⟩
            obtain ⟨zs, hzs⟩ : ∃ zs, zs = l13 := ⟨_, rfl⟩
            have HOX := HOW13
            rw [← hw10, ← hgi0, ← hci0, ← hzs] at HOX
            rw [← hw10, ← hgi0, ← hci0, ← hzs]
            have HZ : Hid (zs = xs.take k ++ (q, lf) :: xs.drop k) := Lib.hid (by rw [hzs, HQ13.out, HQ8.out, HQ5.out]; simp)
            obtain ⟨Ti, HTi, HOI⟩ : ∃ Ti : Nat → Prop, Hid (∀ b, Ti b → (fun b => w.heap.size + 2 ≤ b ∧ b < nb) b ∨ b = gf) ∧ Hid (OwS true 2 (EN true) 75 w10 Ti wE.heap.size (some ⟨gi, 0, none⟩) ci zs) := ⟨_, Lib.hid (by
              rintro b (((h | ⟨j, _, h⟩) | h) | ⟨j, _, h⟩)
              · exact h.elim
              · exact .inl (HFT.out j b h)
              · exact .inr h
              · exact .inl (HFT.out j b h)), HOX⟩
            have HRZ : Hid (rcvS st q lf xs = relR st zs []) := Lib.hid (HRS.out _ (by rw [HINS.out, HZ.out]))
            have HZL : Hid (zs.length = xs.length + 1) := Lib.hid (by rw [HZ.out]; simp; omega)
            have HIC := Lib.hid HOI.out.cap
            have hbz := HBVv5.out
            rw [← hw10] at hbz
            have hs10 := hbz.size
            have hgi : wE.heap.size ≤ gi := HOI.out.ge
            have hgi2 : gi < w10.heap.size := HOI.out.lt
            have HB10 := Lib.hid (HBE.out.trans (hbz.mono HBE.out.size))
            have HO10 := Lib.hid (OwS.below (R := EB true) EB.framed HOE.out hbz)
            rw [← hw10] at k0 k1 f0 f1
            replace k2 := (hbz.frozen (p := ⟨nb, 0, none⟩) (by simp only; omega)).trans k2
            replace k3 := (hbz.frozen (p := ⟨nb, 1, none⟩) (by simp only; omega)).trans k3
            replace r0 := (hbz.cell (p := ⟨w.heap.size + 1, 0, none⟩) (by simp only; omega)).trans r0
            replace r1 := (hbz.cell (p := ⟨w.heap.size + 1, 1, none⟩) (by simp only; omega)).trans r1
            replace z0 := (hbz.frozen (p := ⟨w.heap.size + 1, 0, none⟩) (by simp only; omega)).trans z0
            replace z1 := (hbz.frozen (p := ⟨w.heap.size + 1, 1, none⟩) (by simp only; omega)).trans z1
            rw [← hw10] at hHeld
            clear hbz HOX HOW13 hw10 hgi0 hci0 hzs hgg5 hgg8 hgg13 hs1 hs2 hltv3 hgev3 hltv4 hgev4 hltv5 hgev5
            refine wpAnyG_takeW [15] (i := 14) (d := some 105) (v := ?_) (by simp only [List.getElem?_toArray, List.getElem?_cons_succ, List.getElem?_cons_zero]; rfl) (by rfl) (by kernel_rfl) (by kernel_rfl) (by kernel_rfl) (by kernel_rfl) (by kernel_rfl) (by intro _ _ _ h; exact h) (by rfl) ?_ (by assumption) ?_
            rotate_left 1
            · (intro w hSw; (try dsimp only at hSw); go_simp; try (with_reducible rfl))
            (try simp only [Act.put, List.setIfInBounds_toArray, List.set_cons_zero, List.set_cons_succ])
            refine wpAnyG_ready (rs := [15]) (by kernel_rfl) (by simp) ?_
            refine (AllReadyG.cons (i := 15) (by simp only [List.getElem?_toArray, List.getElem?_cons_succ, List.getElem?_cons_zero]; rfl) (fun K hK => ?_) AllReadyG.nil)
            go_simp
            go_wp2_with fail
            refine hK.out _ _ (fun h => by cases h) (fun _ => ?_)
            clear hK K
            (try simp only [Act.put, List.setIfInBounds_toArray, List.set_cons_zero, List.set_cons_succ])
            refine wpAnyG_done (by kernel_rfl) ?_ _
            have hst : Chg (fun b => b = nb) w10 (w10.setCell ⟨nb, 1, none⟩ (.slice (some ⟨gi, 0, none⟩) zs.length ci)) := Chg.setCell_ (S := fun b => b = nb) (Chg.refl _ _) (p := ⟨nb, 1, none⟩) rfl _
            have hss := hst.size
            have R0 := Lib.hid ((hst.cell (p := ⟨w.heap.size + 1, 0, none⟩) (by simp only; omega) (by simp only; omega)).trans r0)
            have R1 := Lib.hid ((hst.cell (p := ⟨w.heap.size + 1, 1, none⟩) (by simp only; omega) (by simp only; omega)).trans r1)
            have ZZ0 := Lib.hid ((hst.frozen (p := ⟨w.heap.size + 1, 0, none⟩) (by simp only; omega) (by simp only; omega)).trans z0)
            have ZZ1 := Lib.hid ((hst.frozen (p := ⟨w.heap.size + 1, 1, none⟩) (by simp only; omega) (by simp only; omega)).trans z1)
            have HBs := Lib.hid (HB10.out.trans (hst.below (by omega) (fun k hk => by omega)))
            have HOs := Lib.hid (OwS.frame (R := EB true) EB.framed HO10.out hst (fun b h1 h2 => by have := HD2.out b h1; omega) (fun a' ha' h2 => by injection ha' with ha'; subst ha'; simp only at h2; omega))
            have HTI2 : Hid (∀ b, Ti b → w.heap.size + 2 ≤ b ∧ b < wE.heap.size ∧ b ≠ nb ∧ b ≠ w2.heap.size ∧ ¬ (fun _ => False) b) := Lib.hid (fun b hb => by
              rcases HTi.out b hb with h | h
              · have := HD1.out b h; exact ⟨by omega, by omega, by omega, by omega, this.2.2.2.2⟩
              · exact ⟨by omega, by omega, by omega, by omega, fun h2 => by have := HD2.out b h2; omega⟩)
            have HIs := Lib.hid (OwS.slT (T := fun b => Ti b ∨ b = gi) (OwS.widerT (OwS.frame (R := EN true) EN.framed HOI.out hst (fun b h1 h2 => by have := HTI2.out b h1; omega) (fun a' ha' h2 => by injection ha' with ha'; subst ha'; simp only at h2; omega)) (fun b h _ => .inl h)) (fun a ha => by injection ha with ha; subst ha; exact .inr rfl))
            have HSPI := Lib.hid (HOI.out.spare.frame hst (fun a ha h2 => by injection ha with ha; subst ha; simp only at h2; omega))
            obtain ⟨z, hz⟩ : ∃ z, z = relR st zs [] := ⟨_, rfl⟩
            have HR2 := Lib.hid hz
            have HR : Hid (rcvS st q lf xs = z) := Lib.hid (by rw [HRZ.out, hz])
            have HSSz := Lib.hid hss
            have hne01 : ¬ nb = w.heap.size + 1 := by omega
            have hne10 : ¬ w.heap.size + 1 = nb := by omega
            clear hst r0 r1 z0 z1 hss hz
            go_wp2_with fail
            have hss := HSSz.out
            refine (specRelS_any (T1 := fun b => Ti b ∨ b = gi) (T2 := (fun _ => False)) st (some ⟨gi, 0, none⟩) ci zs w2.heap.size 0 [] (w.heap.size + 2) _ HIs.out HIC.out HSPI.out (by have h1 := HL8.out; have h2 := HLB.out; have h3 := HZL.out; omega) HOs.out (fun a ha => by injection ha with ha; subst ha; exact ⟨by simp only; omega, by simp only; omega⟩) (fun b hb => ?a1) (fun b hb => ?a2) (by omega)).mono ?_
            case a1 =>
              rcases hb with hb | hb
              · have h1 := HTI2.out b hb; exact ⟨by omega, h1.2.2.2.2, by omega⟩
              · exact ⟨by omega, fun h => by have := HD2.out b h; omega, by omega⟩
            case a2 => have h1 := HD2.out b hb; omega
            rw [← HR2.out]
            rintro e w12 ⟨A4, c4, gb4, cb4, T14, T24, rfl, hc4, hcap4, hd41, hd42, hs4, ho4, hgb, hspx, hspy⟩
            have hsz4 := hc4.size
            have r0 := (hc4.cell (p := ⟨w.heap.size + 1, 0, none⟩) (by simp only; omega) (by simp only; omega)).trans R0.out
            have r1 := (hc4.cell (p := ⟨w.heap.size + 1, 1, none⟩) (by simp only; omega) (by simp only; omega)).trans R1.out
            have z0 := (hc4.frozen (p := ⟨w.heap.size + 1, 0, none⟩) (by simp only; omega) (by simp only; omega)).trans ZZ0.out
            have z1 := (hc4.frozen (p := ⟨w.heap.size + 1, 1, none⟩) (by simp only; omega) (by simp only; omega)).trans ZZ1.out
            have HB4 := Lib.hid (HBs.out.trans (hc4.below (by omega) (fun k hk => by omega)))
            have HS4 := Lib.hid hs4
            have HSPX := Lib.hid hspx
            have HSPY : Hid (∀ a, A4 = some a → a.block = gi) := Lib.hid (fun a ha => by obtain ⟨a0, q1, q2⟩ := hspy a ha; injection q1 with q1; subst q1; exact q2)
            clear hspx hspy
            have HO4 := Lib.hid ho4
            have HD41 := Lib.hid hd41
            have HD42 := Lib.hid hd42
            have hge4 := ho4.ge
            have hlt4 := ho4.lt
            clear hc4 hs4 ho4 hd41 hd42 R0 R1 ZZ0 ZZ1
            have hfin : Chg (fun b => b = w.heap.size + 1) w12 ((w12.setCell ⟨w.heap.size + 1, 0, none⟩ (.int .i64 z.1)).setCell ⟨w.heap.size + 1, 1, none⟩ (.slice A4 z.2.1.length c4)) := Chg.setCell_ (S := fun b => b = w.heap.size + 1) (Chg.setCell_ (S := fun b => b = w.heap.size + 1) (Chg.refl _ _) (p := ⟨w.heap.size + 1, 0, none⟩) rfl _) (p := ⟨w.heap.size + 1, 1, none⟩) rfl _
            have hv0 : ((w12.setCell ⟨w.heap.size + 1, 0, none⟩ (.int .i64 z.1)).setCell ⟨w.heap.size + 1, 1, none⟩ (.slice A4 z.2.1.length c4)).cell? ⟨w.heap.size + 1, 0, none⟩ = some (.int .i64 z.1) := by rw [World.cell?_setCell_other _ _ _ _ (fun e => by injection e with _ e2; omega)]; exact World.cell?_setCell_same _ _ _ r0
            have hv1 : ((w12.setCell ⟨w.heap.size + 1, 0, none⟩ (.int .i64 z.1)).setCell ⟨w.heap.size + 1, 1, none⟩ (.slice A4 z.2.1.length c4)).cell? ⟨w.heap.size + 1, 1, none⟩ = some (.slice A4 z.2.1.length c4) := World.cell?_setCell_same (u := .slice none 0 0) _ _ _ (by rw [World.cell?_setCell_other _ _ _ _ (fun e => by injection e with _ e2; omega)]; exact r1)
            have HF := Lib.hid hfin
            have HV0 := Lib.hid hv0
            have HV1 := Lib.hid hv1
            clear hfin hv0 hv1
            go_simp
            repeat (first | go_skip | go_guarded | go_step | go_upon)
            refine bodyPost_ret (v := .tuple #[.agg #[.int .i64 z.1, .slice A4 z.2.1.length c4], .slice (some ⟨gb4, 0, none⟩) z.2.2.length cb4]) (by simp [results, Try.results22, go_sem, HV0.out, HV1.out]) rfl ?_
            rw [HR.out]
            have h1 := HF.out.size
            have t1 : ∀ b, T14 b → w.heap.size + 2 ≤ b ∧ b < w10.heap.size ∧ b ≠ w2.heap.size := fun b hb => by
              rcases (HD41.out b hb).1 with h | h
              · have := HTI2.out b h; exact ⟨by omega, by omega, by omega⟩
              · subst h; exact ⟨by omega, by omega, by omega⟩
            have t2 : ∀ b, T24 b → w.heap.size + 2 ≤ b ∧ b < w10.heap.size := fun b hb => by
              rcases HD42.out b hb with h | h | h
              · have := HD2.out b h; omega
              · have := HTI2.out b h; omega
              · subst h; omega
            refine ⟨A4, c4, gb4, cb4, T14, (fun b => T24 b ∨ b = gb4), rfl, HB4.out.trans (HF.out.below (by omega) (fun k hk => by omega)), hcap4, fun b hb => ⟨by have := t1 b hb; omega, by have := t1 b hb; omega, fun h => ?_⟩, fun b hb => ?_, Sl.frame (R := EN true) EN.framed HS4.out HF.out (fun b hb h2 => by have := t1 b hb; omega), ((OwS.frame (R := EB true) EB.framed HO4.out HF.out (fun b hb h2 => by have := t2 b hb; omega) (fun a' ha' h2 => by injection ha' with ha'; subst ha'; simp only at h2; omega)).lower (by omega)).widerT (fun b h1 h2 => .inl h1), .inr rfl, HSPX.out.frame HF.out (fun a ha h2 => by have := HSPY.out a ha; omega), fun a ha => by have := HSPY.out a ha; omega⟩
            · rcases h with h | h
              · exact (HD41.out b hb).2 h
              · have := t1 b hb; omega
            · rcases hb with h | h
              · have := t2 b h; omega
              · subst h; omega
    · have hke : k = xs.length := by omega
      have HINS : Hid (insS st (q, body) xs = some (xs.take k ++ (q, body) :: xs.drop k)) := Lib.hid (insS_miss _ _ _ _ hk HK.out (fun x hx => by rw [List.getElem?_eq_none (by omega)] at hx; cases hx))
      have hlt2 : ¬ (k : Int) < (xs.length : Int) := by omega
      clear hke
      go_wp2
      refine wp_region_held_drew (S := (fun w' => w'.cell? ⟨nb, 0, none⟩ = some (.int .i64 st) ∧ w'.cell? ⟨nb, 1, none⟩ = some (.slice A xs.length c))) (by kernel_rfl) ?_ (fun hHeld => ?_)
      · first | exact ⟨c0', c1'⟩ | (simp [go_sem, *]; done)
      refine wpAnyH_takeW (i := 0) (d := some 46) (v := ?_) (by simp only [List.getElem?_toArray, List.getElem?_cons_succ, List.getElem?_cons_zero]; rfl) (by rfl) (by kernel_rfl) (by kernel_rfl) (by kernel_rfl) (by intro _ _ _ h; exact h) (by rfl) ?_ (by assumption) ?_
      rotate_left 1
      · (intro w hSw; (try dsimp only at hSw); go_simp; try (with_reducible rfl))
      (try simp only [Act.put, List.setIfInBounds_toArray, List.set_cons_zero, List.set_cons_succ])
      refine wpAnyH_takeW (i := 1) (d := some 47) (v := ?_) (by simp only [List.getElem?_toArray, List.getElem?_cons_succ, List.getElem?_cons_zero]; rfl) (by rfl) (by kernel_rfl) (by kernel_rfl) (by kernel_rfl) (by intro _ _ _ h; exact h) (by rfl) ?_ (by assumption) ?_
      rotate_left 1
      · (intro w hSw; (try dsimp only at hSw); go_simp; try (with_reducible rfl))
      (try simp only [Act.put, List.setIfInBounds_toArray, List.set_cons_zero, List.set_cons_succ])
      refine wpAnyH_takeW (i := 2) (d := some 48) (v := ?_) (by simp only [List.getElem?_toArray, List.getElem?_cons_succ, List.getElem?_cons_zero]; rfl) (by rfl) (by kernel_rfl) (by kernel_rfl) (by kernel_rfl) (by intro _ _ _ h; exact h) (by rfl) ?_ (by assumption) ?_
      rotate_left 1
      · (intro w hSw; (try dsimp only at hSw); go_simp; try (with_reducible rfl))
      (try simp only [Act.put, List.setIfInBounds_toArray, List.set_cons_zero, List.set_cons_succ])
      refine wpAnyH_takeW (i := 3) (d := some 49) (v := ?_) (by simp only [List.getElem?_toArray, List.getElem?_cons_succ, List.getElem?_cons_zero]; rfl) (by rfl) (by kernel_rfl) (by kernel_rfl) (by kernel_rfl) (by intro _ _ _ h; exact h) (by rfl) ?_ (by assumption) ?_
      rotate_left 1
      · (intro w hSw; (try dsimp only at hSw); go_simp; try (with_reducible rfl))
      (try simp only [Act.put, List.setIfInBounds_toArray, List.set_cons_zero, List.set_cons_succ])
      refine wpAnyH_takeW (i := 4) (d := some 50) (v := ?_) (by simp only [List.getElem?_toArray, List.getElem?_cons_succ, List.getElem?_cons_zero]; rfl) (by rfl) (by kernel_rfl) (by kernel_rfl) (by kernel_rfl) (by intro _ _ _ h; exact h) (by rfl) ?_ (by assumption) ?_
      rotate_left 1
      · (intro w hSw; (try dsimp only at hSw); go_simp; try (with_reducible rfl))
      (try simp only [Act.put, List.setIfInBounds_toArray, List.set_cons_zero, List.set_cons_succ])
      refine wpAnyH_takeW (i := 5) (d := some 51) (v := ?_) (by simp only [List.getElem?_toArray, List.getElem?_cons_succ, List.getElem?_cons_zero]; rfl) (by rfl) (by kernel_rfl) (by kernel_rfl) (by kernel_rfl) (by intro _ _ _ h; exact h) (by rfl) ?_ (by assumption) ?_
      rotate_left 1
      · (intro w hSw; (try dsimp only at hSw); go_simp; try (with_reducible rfl))
      (try simp only [Act.put, List.setIfInBounds_toArray, List.set_cons_zero, List.set_cons_succ])
      refine wpAnyH_takeU (i := 6) (d := some 52) (by simp only [List.getElem?_toArray, List.getElem?_cons_succ, List.getElem?_cons_zero]; rfl) (by rfl) (by kernel_rfl) (by kernel_rfl) (by kernel_rfl) (by intro _ _ _ h; exact h) (by rfl) (by assumption) ?_
      (try simp only [Act.put, List.setIfInBounds_toArray, List.set_cons_zero, List.set_cons_succ])
      refine wpAnyH_takeU (i := 7) (d := some 53) (by simp only [List.getElem?_toArray, List.getElem?_cons_succ, List.getElem?_cons_zero]; rfl) (by rfl) (by kernel_rfl) (by kernel_rfl) (by kernel_rfl) (by intro _ _ _ h; exact h) (by rfl) (by assumption) ?_
      (try simp only [Act.put, List.setIfInBounds_toArray, List.set_cons_zero, List.set_cons_succ])
      refine wpAnyH_takeU (i := 8) (d := some 54) (by simp only [List.getElem?_toArray, List.getElem?_cons_succ, List.getElem?_cons_zero]; rfl) (by rfl) (by kernel_rfl) (by kernel_rfl) (by kernel_rfl) (by intro _ _ _ h; exact h) (by rfl) (by assumption) ?_
      (try simp only [Act.put, List.setIfInBounds_toArray, List.set_cons_zero, List.set_cons_succ])
      refine wpAnyH_takeU (i := 9) (d := some 55) (by simp only [List.getElem?_toArray, List.getElem?_cons_succ, List.getElem?_cons_zero]; rfl) (by rfl) (by kernel_rfl) (by kernel_rfl) (by kernel_rfl) (by intro _ _ _ h; exact h) (by rfl) (by assumption) ?_
      (try simp only [Act.put, List.setIfInBounds_toArray, List.set_cons_zero, List.set_cons_succ])
      refine wpAnyH_takeU (i := 10) (d := some 56) (by simp only [List.getElem?_toArray, List.getElem?_cons_succ, List.getElem?_cons_zero]; rfl) (by rfl) (by kernel_rfl) (by kernel_rfl) (by kernel_rfl) (by intro _ _ _ h; exact h) (by rfl) (by assumption) ?_
      (try simp only [Act.put, List.setIfInBounds_toArray, List.set_cons_zero, List.set_cons_succ])
      refine wpAnyH_takeU (i := 11) (d := some 57) (by simp only [List.getElem?_toArray, List.getElem?_cons_succ, List.getElem?_cons_zero]; rfl) (by rfl) (by kernel_rfl) (by kernel_rfl) (by kernel_rfl) (by intro _ _ _ h; exact h) (by rfl) (by assumption) ?_
      (try simp only [Act.put, List.setIfInBounds_toArray, List.set_cons_zero, List.set_cons_succ])
      refine wpAnyH_takeU (i := 12) (d := some 58) (by simp only [List.getElem?_toArray, List.getElem?_cons_succ, List.getElem?_cons_zero]; rfl) (by rfl) (by kernel_rfl) (by kernel_rfl) (by kernel_rfl) (by intro _ _ _ h; exact h) (by rfl) (by assumption) ?_
      (try simp only [Act.put, List.setIfInBounds_toArray, List.set_cons_zero, List.set_cons_succ])
      refine wpAnyH_takeU (i := 13) (d := some 59) (by simp only [List.getElem?_toArray, List.getElem?_cons_succ, List.getElem?_cons_zero]; rfl) (by rfl) (by kernel_rfl) (by kernel_rfl) (by kernel_rfl) (by intro _ _ _ h; exact h) (by rfl) (by assumption) ?_
      (try simp only [Act.put, List.setIfInBounds_toArray, List.set_cons_zero, List.set_cons_succ])
      refine wpAnyH_takeU (i := 14) (d := some 60) (by simp only [List.getElem?_toArray, List.getElem?_cons_succ, List.getElem?_cons_zero]; rfl) (by rfl) (by kernel_rfl) (by kernel_rfl) (by kernel_rfl) (by intro _ _ _ h; exact h) (by rfl) (by assumption) ?_
      (try simp only [Act.put, List.setIfInBounds_toArray, List.set_cons_zero, List.set_cons_succ])
      refine wpAnyH_takeU (i := 15) (d := some 61) (by simp only [List.getElem?_toArray, List.getElem?_cons_succ, List.getElem?_cons_zero]; rfl) (by rfl) (by kernel_rfl) (by kernel_rfl) (by kernel_rfl) (by intro _ _ _ h; exact h) (by rfl) (by assumption) ?_
      (try simp only [Act.put, List.setIfInBounds_toArray, List.set_cons_zero, List.set_cons_succ])
      refine wpAnyH_takeU (i := 16) (d := some 62) (by simp only [List.getElem?_toArray, List.getElem?_cons_succ, List.getElem?_cons_zero]; rfl) (by rfl) (by kernel_rfl) (by kernel_rfl) (by kernel_rfl) (by intro _ _ _ h; exact h) (by rfl) (by assumption) ?_
      (try simp only [Act.put, List.setIfInBounds_toArray, List.set_cons_zero, List.set_cons_succ])
      refine wpAnyH_takeU (i := 17) (d := some 63) (by simp only [List.getElem?_toArray, List.getElem?_cons_succ, List.getElem?_cons_zero]; rfl) (by rfl) (by kernel_rfl) (by kernel_rfl) (by kernel_rfl) (by intro _ _ _ h; exact h) (by rfl) (by assumption) ?_
      (try simp only [Act.put, List.setIfInBounds_toArray, List.set_cons_zero, List.set_cons_succ])
      refine wpAnyH_takeU (i := 18) (d := some 64) (by simp only [List.getElem?_toArray, List.getElem?_cons_succ, List.getElem?_cons_zero]; rfl) (by rfl) (by kernel_rfl) (by kernel_rfl) (by kernel_rfl) (by intro _ _ _ h; exact h) (by rfl) (by assumption) ?_
      (try simp only [Act.put, List.setIfInBounds_toArray, List.set_cons_zero, List.set_cons_succ])
      refine wpAnyH_takeU (i := 19) (d := some 65) (by simp only [List.getElem?_toArray, List.getElem?_cons_succ, List.getElem?_cons_zero]; rfl) (by rfl) (by kernel_rfl) (by kernel_rfl) (by kernel_rfl) (by intro _ _ _ h; exact h) (by rfl) (by assumption) ?_
      (try simp only [Act.put, List.setIfInBounds_toArray, List.set_cons_zero, List.set_cons_succ])
      refine wpAnyH_takeW (i := 20) (d := some 66) (v := ?_) (by simp only [List.getElem?_toArray, List.getElem?_cons_succ, List.getElem?_cons_zero]; rfl) (by rfl) (by kernel_rfl) (by kernel_rfl) (by kernel_rfl) (by intro _ _ _ h; exact h) (by rfl) ?_ (by assumption) ?_
      rotate_left 1
      · (intro w hSw; (try dsimp only at hSw); go_simp; try (with_reducible rfl))
      (try simp only [Act.put, List.setIfInBounds_toArray, List.set_cons_zero, List.set_cons_succ])
      refine wpAnyH_done (by kernel_rfl) ?_ _
      obtain ⟨wd, hwd⟩ : ∃ wd, wd = wr.drew := ⟨_, rfl⟩
      rw [← hwd]
      have hbd : Below w7.heap.size w7 wd := by rw [hwd]; exact Below.drew HDr.out.below
      have hsd : w7.heap.size ≤ wd.heap.size := hbd.size
      clear hwd c0' c1'
      replace k0 := (hbd.cell (p := ⟨nb, 0, none⟩) (by simp only; omega)).trans k0
      replace k1 := (hbd.cell (p := ⟨nb, 1, none⟩) (by simp only; omega)).trans k1
      replace k2 := (hbd.frozen (p := ⟨nb, 0, none⟩) (by simp only; omega)).trans k2
      replace k3 := (hbd.frozen (p := ⟨nb, 1, none⟩) (by simp only; omega)).trans k3
      replace r0 := (hbd.cell (p := ⟨w.heap.size + 1, 0, none⟩) (by simp only; omega)).trans r0
      replace r1 := (hbd.cell (p := ⟨w.heap.size + 1, 1, none⟩) (by simp only; omega)).trans r1
      replace z0 := (hbd.frozen (p := ⟨w.heap.size + 1, 0, none⟩) (by simp only; omega)).trans z0
      replace z1 := (hbd.frozen (p := ⟨w.heap.size + 1, 1, none⟩) (by simp only; omega)).trans z1
      have HBD := Lib.hid (HB8.out.trans (hbd.mono HB8.out.size))
      have HSD := Lib.hid (Sl.below (R := EN true) EN.framed HS8.out hbd)
      have HSPD := Lib.hid (HSP7.out.below hbd)
      have HOD := Lib.hid (OwS.below (R := EB true) EB.framed HO8.out hbd)
      clear hbd

      obtain ⟨j0, hj, hy0, hy1, hy2⟩ := info_parts infoU8
      obtain ⟨i0, hI0, hz0, hz1, hz2⟩ := info_parts infoNF
      have hbnl : Below wd.heap.size wd (wd.alloc (.cells #[] 5)) := Below.alloc (Below.refl _ _) (Nat.le_refl _) _
      have HBN := Lib.hid hbnl
      have HROW : Hid (OwR (Value.int .u8) 5 (wd.alloc (.cells #[] 5)) wd.heap.size wd.heap.size 0 []) := Lib.hid (OwR.new (Nat.le_refl _) (World.heap_new _ _ _ rfl))
      clear hbnl
      go_wp2_with (at_builtin; refine wpList_appR (f := Value.int .u8) rfl (.tmp 87) (.tmp 88) 38 rfl 5 j0 (.int .u8 0) 1 Try.underlying38 hj hy0 hy1 hy2 rfl wd.heap.size _ _ [] rfl HROW.out B body cb (fun _ _ => rfl) rfl (HBY.out.below (HBD.out.trans (HBN.out.mono HBD.out.size))).rwF (by simp only [List.length_nil]; omega) (by decide) (by simp) ?_)
      intro gf cf w9 lf HQf HOf HGf HCf
      have hlf : lf = body := HQf.out
      subst hlf
      have hs9 : wd.heap.size + 1 ≤ w9.heap.size := by have := HCf.out.size; simpa using this
      have hgf : wd.heap.size ≤ gf := HOf.out.ge
      have hgf2 : gf < w9.heap.size := HOf.out.lt
      have hb9 : Below wd.heap.size wd w9 := HBN.out.trans (HCf.out.below (by simp) (fun k hk => by omega))
      replace k0 := (hb9.cell (p := ⟨nb, 0, none⟩) (by simp only; omega)).trans k0
      replace k1 := (hb9.cell (p := ⟨nb, 1, none⟩) (by simp only; omega)).trans k1
      replace k2 := (hb9.frozen (p := ⟨nb, 0, none⟩) (by simp only; omega)).trans k2
      replace k3 := (hb9.frozen (p := ⟨nb, 1, none⟩) (by simp only; omega)).trans k3
      replace r0 := (hb9.cell (p := ⟨w.heap.size + 1, 0, none⟩) (by simp only; omega)).trans r0
      replace r1 := (hb9.cell (p := ⟨w.heap.size + 1, 1, none⟩) (by simp only; omega)).trans r1
      replace z0 := (hb9.frozen (p := ⟨w.heap.size + 1, 0, none⟩) (by simp only; omega)).trans z0
      replace z1 := (hb9.frozen (p := ⟨w.heap.size + 1, 1, none⟩) (by simp only; omega)).trans z1
      have HB9 := Lib.hid (HBD.out.trans (hb9.mono HBD.out.size))
      have HS9 := Lib.hid (Sl.below (R := EN true) EN.framed HSD.out hb9)
      have HO9 := Lib.hid (OwS.below (R := EB true) EB.framed HOD.out hb9)
      have HFR9 : Hid (Rw true .u8 w9 (fun b => b = gf) (some ⟨gf, 0, none⟩) lf) := Lib.hid HOf.out.rwF.rw
      clear hb9 HBN HROW HOf HGf HCf HQf
      go_wp2
      obtain ⟨wE, hwE⟩ : ∃ wE, wE = w9.alloc (.cells #[.int .i64 q, .slice (some ⟨gf, 0, none⟩) lf.length cf] 75) := ⟨_, rfl⟩
      rw [← hwE]
      obtain ⟨fb, hfb⟩ : ∃ fb, fb = w9.heap.size := ⟨_, rfl⟩
      have hbE : Below w9.heap.size w9 wE := by rw [hwE]; exact Below.alloc (Below.refl _ _) (Nat.le_refl _) _
      have hsE : w9.heap.size < wE.heap.size := by rw [hwE]; simp
      have f0 : wE.cell? ⟨fb, 0, none⟩ = some (.int .i64 q) := by rw [hwE, hfb]; exact (block_cell (World.heap_new w9 (.cells #[.int .i64 q, .slice (some ⟨gf, 0, none⟩) lf.length cf] 75) _ rfl) 0).1
      have f1 : wE.cell? ⟨fb, 1, none⟩ = some (.slice (some ⟨gf, 0, none⟩) lf.length cf) := by rw [hwE, hfb]; exact (block_cell (World.heap_new w9 (.cells #[.int .i64 q, .slice (some ⟨gf, 0, none⟩) lf.length cf] 75) _ rfl) 1).1
      rw [← hfb]
      have hfb1 : w9.heap.size ≤ fb := Nat.le_of_eq hfb.symm
      have hfb2 : fb < wE.heap.size := by omega
      clear hfb
      replace k0 := (hbE.cell (p := ⟨nb, 0, none⟩) (by simp only; omega)).trans k0
      replace k1 := (hbE.cell (p := ⟨nb, 1, none⟩) (by simp only; omega)).trans k1
      replace k2 := (hbE.frozen (p := ⟨nb, 0, none⟩) (by simp only; omega)).trans k2
      replace k3 := (hbE.frozen (p := ⟨nb, 1, none⟩) (by simp only; omega)).trans k3
      replace r0 := (hbE.cell (p := ⟨w.heap.size + 1, 0, none⟩) (by simp only; omega)).trans r0
      replace r1 := (hbE.cell (p := ⟨w.heap.size + 1, 1, none⟩) (by simp only; omega)).trans r1
      replace z0 := (hbE.frozen (p := ⟨w.heap.size + 1, 0, none⟩) (by simp only; omega)).trans z0
      replace z1 := (hbE.frozen (p := ⟨w.heap.size + 1, 1, none⟩) (by simp only; omega)).trans z1
      have HBE := Lib.hid (HB9.out.trans (hbE.mono HB9.out.size))
      have HSE := Lib.hid (Sl.below (R := EN true) EN.framed HS9.out hbE)
      have HOE := Lib.hid (OwS.below (R := EB true) EB.framed HO9.out hbE)
      have HFR := Lib.hid (HFR9.out.below hbE)
      clear hbE hwE HB9 HS9 HO9 HFR9
      obtain ⟨ga, oa, F, hA, hgl, hFT, hSEP, hFg, hEL⟩ := HSE.out.parts
      have HEL := Lib.hid hEL
      have HA := Lib.hid hA
      have HGL := Lib.hid hgl
      have HFT := Lib.hid hFT
      have HSEP := Lib.hid hSEP
      clear hA hgl hFT hSEP hFg
      obtain ⟨A1, hs1, hA1⟩ := run_sliceTo (P := Try.prog) (t := 26) (e := 75) Try.underlying26 sizeNF A xs.length c k (by omega)
      obtain ⟨A2, hs2, hA2⟩ := run_sliceFrom (P := Try.prog) (t := 26) (e := 75) Try.underlying26 sizeNF A xs.length c k hk hcap8
      have HA1 := Lib.hid hA1
      have HA2 := Lib.hid hA2
      clear hEL hA1 hA2
      refine wp_region_G [15] (S := (fun w' => w'.cell? ⟨nb, 0, none⟩ = some (.int .i64 st) ∧ w'.cell? ⟨nb, 1, none⟩ = some (.slice A xs.length c) ∧ w'.cell? ⟨fb, 0, none⟩ = some (.int .i64 q) ∧ w'.cell? ⟨fb, 1, none⟩ = some (.slice (some ⟨gf, 0, none⟩) lf.length cf))) (by kernel_rfl) ?_ (fun hHeld => ?_)
      · first | exact ⟨k0, k1, f0, f1⟩ | exact ⟨(World.cell?_alloc_lt _ _ _ (by simp only; omega)).trans k0, (World.cell?_alloc_lt _ _ _ (by simp only; omega)).trans k1, (World.cell?_alloc_lt _ _ _ (by simp only; omega)).trans f0, (World.cell?_alloc_lt _ _ _ (by simp only; omega)).trans f1⟩
      refine wpAnyG_takeW [2, 4, 5, 8, 13, 14, 15] (i := 1) (d := some 92) (v := ?_) (by simp only [List.getElem?_toArray, List.getElem?_cons_succ, List.getElem?_cons_zero]; rfl) (by rfl) (by kernel_rfl) (by kernel_rfl) (by kernel_rfl) (by kernel_rfl) (by kernel_rfl) (by intro _ _ _ h; exact h) (by rfl) ?_ (by assumption) ?_
      rotate_left 1
      · (intro w hSw; (try dsimp only at hSw); go_simp; try (with_reducible rfl))
      (try simp only [Act.put, List.setIfInBounds_toArray, List.set_cons_zero, List.set_cons_succ])
      refine wpAnyG_takeW [4, 5, 8, 13, 14, 15] (i := 2) (d := some 93) (v := ?_) (by simp only [List.getElem?_toArray, List.getElem?_cons_succ, List.getElem?_cons_zero]; rfl) (by rfl) (by kernel_rfl) (by kernel_rfl) (by kernel_rfl) (by kernel_rfl) (by kernel_rfl) (by intro _ _ _ h; exact h) (by rfl) ?_ (by assumption) ?_
      rotate_left 1
      · (intro w hSw; (try dsimp only at hSw); go_simp; try (with_reducible rfl))
      (try simp only [Act.put, List.setIfInBounds_toArray, List.set_cons_zero, List.set_cons_succ])
      refine wpAnyG_takeW [4, 5, 8, 13, 14, 15] (i := 3) (d := some 94) (v := ?_) (by simp only [List.getElem?_toArray, List.getElem?_cons_succ, List.getElem?_cons_zero]; rfl) (by rfl) (by kernel_rfl) (by kernel_rfl) (by kernel_rfl) (by kernel_rfl) (by kernel_rfl) (by intro _ _ _ h; exact h) (by rfl) ?_ (by assumption) ?_
      rotate_left 1
      · (intro w hSw; (try dsimp only at hSw); go_simp; try (with_reducible rfl))
      (try simp only [Act.put, List.setIfInBounds_toArray, List.set_cons_zero, List.set_cons_succ])
      refine wpAnyG_takeW [5, 8, 13, 14, 15] (i := 4) (d := some 95) (v := ?_) (by simp only [List.getElem?_toArray, List.getElem?_cons_succ, List.getElem?_cons_zero]; rfl) (by rfl) (by kernel_rfl) (by kernel_rfl) (by kernel_rfl) (by kernel_rfl) (by kernel_rfl) (by intro _ _ _ h; exact h) (by rfl) ?_ (by assumption) ?_
      rotate_left 1
      · (intro w hSw; (try dsimp only at hSw); go_simp; try (with_reducible rfl))
      (try simp only [Act.put, List.setIfInBounds_toArray, List.set_cons_zero, List.set_cons_succ])
      refine wpAnyG_takeW [7, 8, 13, 14, 15] (i := 6) (d := some 97) (v := ?_) (by simp only [List.getElem?_toArray, List.getElem?_cons_succ, List.getElem?_cons_zero]; rfl) (by rfl) (by kernel_rfl) (by kernel_rfl) (by kernel_rfl) (by kernel_rfl) (by kernel_rfl) (by intro _ _ _ h; exact h) (by rfl) ?_ (by assumption) ?_
      rotate_left 1
      · (intro w hSw; (try dsimp only at hSw); go_simp; try (with_reducible rfl))
      (try simp only [Act.put, List.setIfInBounds_toArray, List.set_cons_zero, List.set_cons_succ])
      refine wpAnyG_takeW [10, 12, 13, 14, 15] (i := 9) (d := some 100) (v := ?_) (by simp only [List.getElem?_toArray, List.getElem?_cons_succ, List.getElem?_cons_zero]; rfl) (by rfl) (by kernel_rfl) (by kernel_rfl) (by kernel_rfl) (by kernel_rfl) (by kernel_rfl) (by intro _ _ _ h; exact h) (by rfl) ?_ (by assumption) ?_
      rotate_left 1
      · (intro w hSw; (try dsimp only at hSw); go_simp; try (with_reducible rfl))
      (try simp only [Act.put, List.setIfInBounds_toArray, List.set_cons_zero, List.set_cons_succ])
      refine wpAnyG_takeW [12, 13, 14, 15] (i := 10) (d := some 101) (v := ?_) (by simp only [List.getElem?_toArray, List.getElem?_cons_succ, List.getElem?_cons_zero]; rfl) (by rfl) (by kernel_rfl) (by kernel_rfl) (by kernel_rfl) (by kernel_rfl) (by kernel_rfl) (by intro _ _ _ h; exact h) (by rfl) ?_ (by assumption) ?_
      rotate_left 1
      · (intro w hSw; (try dsimp only at hSw); go_simp; try (with_reducible rfl))
      (try simp only [Act.put, List.setIfInBounds_toArray, List.set_cons_zero, List.set_cons_succ])
      refine wpAnyG_takeW [12, 13, 14, 15] (i := 11) (d := some 102) (v := ?_) (by simp only [List.getElem?_toArray, List.getElem?_cons_succ, List.getElem?_cons_zero]; rfl) (by rfl) (by kernel_rfl) (by kernel_rfl) (by kernel_rfl) (by kernel_rfl) (by kernel_rfl) (by intro _ _ _ h; exact h) (by rfl) ?_ (by assumption) ?_
      rotate_left 1
      · (intro w hSw; (try dsimp only at hSw); go_simp; try (with_reducible rfl))
      (try simp only [Act.put, List.setIfInBounds_toArray, List.set_cons_zero, List.set_cons_succ])
      refine wpAnyG_takeW [13, 14, 15] (i := 12) (d := some 103) (v := ?_) (by simp only [List.getElem?_toArray, List.getElem?_cons_succ, List.getElem?_cons_zero]; rfl) (by rfl) (by kernel_rfl) (by kernel_rfl) (by kernel_rfl) (by kernel_rfl) (by kernel_rfl) (by intro _ _ _ h; exact h) (by rfl) ?_ (by assumption) ?_
      rotate_left 1
      · (intro w hSw; (try dsimp only at hSw); go_simp; try (with_reducible rfl))
      (try simp only [Act.put, List.setIfInBounds_toArray, List.set_cons_zero, List.set_cons_succ])
      refine wpAnyG_ready (rs := [0, 7]) (by kernel_rfl) (by simp) ?_
      refine (AllReadyG.cons (i := 0) (by simp only [List.getElem?_toArray, List.getElem?_cons_succ, List.getElem?_cons_zero]; rfl) (fun K hK => ?_) (AllReadyG.cons (i := 7) (by simp only [List.getElem?_toArray, List.getElem?_cons_succ, List.getElem?_cons_zero]; rfl) (fun K hK => ?_) AllReadyG.nil))
      · go_simp
        go_wp2_with fail
        refine hK.out _ _ (fun _ => ?_) (fun hHeld => ?_)
        · ((try dsimp only); first | exact ⟨k0, k1, f0, f1⟩ | exact ⟨(World.cell?_alloc_lt _ _ _ (by simp only; omega)).trans k0, (World.cell?_alloc_lt _ _ _ (by simp only; omega)).trans k1, (World.cell?_alloc_lt _ _ _ (by simp only; omega)).trans f0, (World.cell?_alloc_lt _ _ _ (by simp only; omega)).trans f1⟩)
        replace hHeld := hHeld (by rfl)
        clear hK K
        (try simp only [Act.put, List.setIfInBounds_toArray, List.set_cons_zero, List.set_cons_succ])
        obtain ⟨v1, hv⟩ : ∃ v, v = (wE.alloc (.cells #[] 75)).drew := ⟨_, rfl⟩
        rw [← hv] at hHeld ⊢
        have hbv : Below wE.heap.size wE v1 := by rw [hv]; exact Below.drew (Below.alloc (Below.refl _ _) (Nat.le_refl _) _)
        have hsv1 : wE.heap.size < v1.heap.size := by rw [hv]; simp
        have HBVv1 := Lib.hid (hbv)
        obtain ⟨gn, hgn⟩ : ∃ gn, gn = wE.heap.size := ⟨_, rfl⟩
        have HON : Hid (OwS true 2 (EN true) 75 v1 (fun _ => False) wE.heap.size (some ⟨gn, 0, none⟩) 0 []) := Lib.hid (OwS.new (by omega) (by rw [hv, hgn]; exact World.heap_new _ _ _ rfl))
        replace k0 := (hbv.cell (p := ⟨nb, 0, none⟩) (by simp only; omega)).trans k0
        replace k1 := (hbv.cell (p := ⟨nb, 1, none⟩) (by simp only; omega)).trans k1
        replace f0 := (hbv.cell (p := ⟨fb, 0, none⟩) (by simp only; omega)).trans f0
        replace f1 := (hbv.cell (p := ⟨fb, 1, none⟩) (by simp only; omega)).trans f1
        clear hbv hv
        rw [← hgn]
        have hgn1 : wE.heap.size ≤ gn := Nat.le_of_eq hgn.symm
        have hgn2 : gn < v1.heap.size := by omega
        clear hgn
        refine wpAnyG_ready (rs := [5, 7]) (by kernel_rfl) (by simp) ?_
        refine (AllReadyG.cons (i := 5) (by simp only [List.getElem?_toArray, List.getElem?_cons_succ, List.getElem?_cons_zero]; rfl) (fun K hK => ?_) (AllReadyG.cons (i := 7) (by simp only [List.getElem?_toArray, List.getElem?_cons_succ, List.getElem?_cons_zero]; rfl) (fun K hK => ?_) AllReadyG.nil))
        · have HELV : Hid (Els 2 (EN true) v1 ga oa F xs) := Lib.hid (fun j hj => EN.framed (HEL.out j hj) (HGL.out (fun e => by rw [e] at hj; simp at hj)).1 (Chg.of_below (S := fun _ => False) HBVv1.out) (fun h => h) (fun _ _ h => h))
          have SRC : Hid (Src true 2 (EN true) v1 (fun _ => False) (fun b => ∃ j, j < k ∧ F j b) gn A1 (xs.take k)) := Lib.hid (Src.take k (fun h => HA1.out _ _ (HA.out h)) (fun h => by have := (HGL.out h).1; omega) HELV.out (fun j b hb => ⟨by have := HD1.out b (HFT.out j b hb); omega, by have := HD1.out b (HFT.out j b hb); omega, fun _ h => h⟩) HSEP.out)
          refine step_appW (R := EN true) (u := true) (w0 := v1) (xs := ([] : List NF)) (ys := (xs.take k)) (T := (fun _ => False)) (Fn := (fun b => ∃ j, j < k ∧ F j b)) rfl EN.mov EN.cls (.tmp 91) (.tmp 95) 26 rfl 75 i0 (.agg #[.int .i64 0, .slice none 0 0]) 32 Try.underlying26 hI0 hz0 hz1 hz2 (by simp [Value.cells]) (by decide) rfl HON.out (Below.refl _ _) (by rw [List.length_take, Nat.min_eq_left hk]; rfl) SRC.out (by have := HL8.out; simp only [List.length_nil, List.length_take]; omega) (by decide) (by omega) ?_
          intro gn5 cn5 v2 l5 HQ5 HOW5 HG5 HC5 HBg5
          have hsv2 := HC5.out.size
          have hltv2 := HOW5.out.lt
          have hgev2 := HOW5.out.ge
          have hgg5 : gn5 = gn ∨ gn5 = v1.heap.size := HG5.out
          have HBVv2 := Lib.hid (HBVv1.out.trans (HC5.out.below (by have := HBVv1.out.size; omega) (fun k hk => by omega)))
          replace k0 := (HC5.out.cell (p := ⟨nb, 0, none⟩) (by simp only; omega) (by simp only; omega)).trans k0
          replace k1 := (HC5.out.cell (p := ⟨nb, 1, none⟩) (by simp only; omega) (by simp only; omega)).trans k1
          replace f0 := (HC5.out.cell (p := ⟨fb, 0, none⟩) (by simp only; omega) (by simp only; omega)).trans f0
          replace f1 := (HC5.out.cell (p := ⟨fb, 1, none⟩) (by simp only; omega) (by simp only; omega)).trans f1
          clear SRC HC5 HBg5 HG5 HELV HON
          go_wp2_with fail
          refine hK.out _ _ (fun _ => ?_) (fun hHeld => ?_)
          · ((try dsimp only); first | exact ⟨k0, k1, f0, f1⟩ | exact ⟨(World.cell?_alloc_lt _ _ _ (by simp only; omega)).trans k0, (World.cell?_alloc_lt _ _ _ (by simp only; omega)).trans k1, (World.cell?_alloc_lt _ _ _ (by simp only; omega)).trans f0, (World.cell?_alloc_lt _ _ _ (by simp only; omega)).trans f1⟩)
          replace hHeld := hHeld (by rfl)
          clear hK K
          (try simp only [Act.put, List.setIfInBounds_toArray, List.set_cons_zero, List.set_cons_succ])
          refine wpAnyG_ready (rs := [7]) (by kernel_rfl) (by simp) ?_
          refine (AllReadyG.cons (i := 7) (by simp only [List.getElem?_toArray, List.getElem?_cons_succ, List.getElem?_cons_zero]; rfl) (fun K hK => ?_) AllReadyG.nil)
          go_simp
          go_wp2_with fail
          refine hK.out _ _ (fun _ => ?_) (fun hHeld => ?_)
          · ((try dsimp only); first | exact ⟨k0, k1, f0, f1⟩ | exact ⟨(World.cell?_alloc_lt _ _ _ (by simp only; omega)).trans k0, (World.cell?_alloc_lt _ _ _ (by simp only; omega)).trans k1, (World.cell?_alloc_lt _ _ _ (by simp only; omega)).trans f0, (World.cell?_alloc_lt _ _ _ (by simp only; omega)).trans f1⟩)
          replace hHeld := hHeld (by rfl)
          clear hK K
          (try simp only [Act.put, List.setIfInBounds_toArray, List.set_cons_zero, List.set_cons_succ])
          obtain ⟨v3, hv⟩ : ∃ v, v = v2.alloc (.cells #[.int .i64 q, .slice (some ⟨gf, 0, none⟩) lf.length cf] 75) := ⟨_, rfl⟩
          rw [← hv] at hHeld ⊢
          have hbv : Below v2.heap.size v2 v3 := by rw [hv]; exact Below.alloc (Below.refl _ _) (Nat.le_refl _) _
          have hsv3 : v2.heap.size < v3.heap.size := by rw [hv]; simp
          have HBVv3 := Lib.hid (HBVv2.out.trans (hbv.mono HBVv2.out.size))
          obtain ⟨gq, hgq⟩ : ∃ gq, gq = v2.heap.size := ⟨_, rfl⟩
          have HFB : Hid (v3.heap[gq]? = some (.cells #[.int .i64 q, .slice (some ⟨gf, 0, none⟩) lf.length cf] 75)) := Lib.hid (by rw [hv, hgq]; exact World.heap_new _ _ _ rfl)
          replace k0 := (hbv.cell (p := ⟨nb, 0, none⟩) (by simp only; omega)).trans k0
          replace k1 := (hbv.cell (p := ⟨nb, 1, none⟩) (by simp only; omega)).trans k1
          replace f0 := (hbv.cell (p := ⟨fb, 0, none⟩) (by simp only; omega)).trans f0
          replace f1 := (hbv.cell (p := ⟨fb, 1, none⟩) (by simp only; omega)).trans f1
          replace HOW5 := Lib.hid (OwS.below (R := EN true) EN.framed HOW5.out hbv)
          clear hbv hv
          rw [← hgq]
          have hgq1 : v2.heap.size ≤ gq := Nat.le_of_eq hgq.symm
          have hgq2 : gq < v3.heap.size := by omega
          clear hgq
          refine wpAnyG_ready (rs := [8]) (by kernel_rfl) (by simp) ?_
          refine (AllReadyG.cons (i := 8) (by simp only [List.getElem?_toArray, List.getElem?_cons_succ, List.getElem?_cons_zero]; rfl) (fun K hK => ?_) AllReadyG.nil)
          have SRC : Hid (Src true 2 (EN true) v3 (fun b => False ∨ ∃ j, j < k ∧ F j b) (fun b => b = gf) gn5 (some ⟨gq, 0, none⟩) [(q, lf)]) := Lib.hid (Src.one (by omega) (by have e0 := block_cell HFB.out 0; have e1 := block_cell HFB.out 1; exact ⟨e0.1, fun _ => e0.2, _, _, e1.1, fun _ => e1.2, HFR.out.below HBVv3.out⟩) (fun b hb => ⟨by omega, by omega, fun _ h => by rcases h with h | ⟨j, _, h⟩; exact h; have := HD1.out b (HFT.out j b h); omega⟩))
          refine step_appW (R := EN true) (u := true) (w0 := v3) (xs := l5) (ys := [(q, lf)]) (T := (fun b => False ∨ ∃ j, j < k ∧ F j b)) (Fn := (fun b => b = gf)) rfl EN.mov EN.cls (.tmp 96) (.tmp 98) 26 rfl 75 i0 (.agg #[.int .i64 0, .slice none 0 0]) 32 Try.underlying26 hI0 hz0 hz1 hz2 (by simp [Value.cells]) (by decide) rfl HOW5.out (Below.refl _ _) rfl SRC.out (by have := HL8.out; have := HQ5.out; rw [this]; simp; omega) (by decide) (by omega) ?_
          intro gn8 cn8 v4 l8 HQ8 HOW8 HG8 HC8 HBg8
          have hsv4 := HC8.out.size
          have hltv4 := HOW8.out.lt
          have hgev4 := HOW8.out.ge
          have hgg8 : gn8 = gn5 ∨ gn8 = v3.heap.size := HG8.out
          have HBVv4 := Lib.hid (HBVv3.out.trans (HC8.out.below (by have := HBVv3.out.size; omega) (fun k hk => by omega)))
          replace k0 := (HC8.out.cell (p := ⟨nb, 0, none⟩) (by simp only; omega) (by simp only; omega)).trans k0
          replace k1 := (HC8.out.cell (p := ⟨nb, 1, none⟩) (by simp only; omega) (by simp only; omega)).trans k1
          replace f0 := (HC8.out.cell (p := ⟨fb, 0, none⟩) (by simp only; omega) (by simp only; omega)).trans f0
          replace f1 := (HC8.out.cell (p := ⟨fb, 1, none⟩) (by simp only; omega) (by simp only; omega)).trans f1
          clear SRC HC8 HBg8 HG8 HOW5
          go_wp2_with fail
          refine hK.out _ _ (fun _ => ?_) (fun hHeld => ?_)
          · ((try dsimp only); first | exact ⟨k0, k1, f0, f1⟩ | exact ⟨(World.cell?_alloc_lt _ _ _ (by simp only; omega)).trans k0, (World.cell?_alloc_lt _ _ _ (by simp only; omega)).trans k1, (World.cell?_alloc_lt _ _ _ (by simp only; omega)).trans f0, (World.cell?_alloc_lt _ _ _ (by simp only; omega)).trans f1⟩)
          replace hHeld := hHeld (by rfl)
          clear hK K
          (try simp only [Act.put, List.setIfInBounds_toArray, List.set_cons_zero, List.set_cons_succ])
          refine wpAnyG_ready (rs := [13]) (by kernel_rfl) (by simp) ?_
          refine (AllReadyG.cons (i := 13) (by simp only [List.getElem?_toArray, List.getElem?_cons_succ, List.getElem?_cons_zero]; rfl) (fun K hK => ?_) AllReadyG.nil)
          have HELV : Hid (Els 2 (EN true) v4 ga oa F xs) := Lib.hid (fun j hj => EN.framed (HEL.out j hj) (HGL.out (fun e => by rw [e] at hj; simp at hj)).1 (Chg.of_below (S := fun _ => False) HBVv4.out) (fun h => h) (fun _ _ h => h))
          have SRC : Hid (Src true 2 (EN true) v4 (fun b => (False ∨ ∃ j, j < k ∧ F j b) ∨ b = gf) (fun b => ∃ j, k ≤ j ∧ F j b) gn8 A2 (xs.drop k)) := Lib.hid (Src.drop k (fun h => HA2.out _ _ (HA.out (fun e => by rw [e] at h; simp at h)) h) (fun h => by have := (HGL.out h).1; omega) HELV.out (fun j b hj hb => ⟨by have := HD1.out b (HFT.out j b hb); omega, by have := HD1.out b (HFT.out j b hb); omega, fun _ h => by rcases h with (h | ⟨j', h1, h2⟩) | h; exact h; have := HSEP.out _ _ b hb h2; omega; have := HD1.out b (HFT.out j b hb); omega⟩) HSEP.out)
          refine step_appW (R := EN true) (u := true) (w0 := v4) (xs := l8) (ys := (xs.drop k)) (T := (fun b => (False ∨ ∃ j, j < k ∧ F j b) ∨ b = gf)) (Fn := (fun b => ∃ j, k ≤ j ∧ F j b)) rfl EN.mov EN.cls (.tmp 99) (.tmp 103) 26 rfl 75 i0 (.agg #[.int .i64 0, .slice none 0 0]) 32 Try.underlying26 hI0 hz0 hz1 hz2 (by simp [Value.cells]) (by decide) rfl HOW8.out (Below.refl _ _) (by rw [List.length_drop]; rfl) SRC.out (by have := HL8.out; have := HQ8.out; have := HQ5.out; rw [HQ8.out, HQ5.out]; simp; omega) (by decide) (by omega) ?_
          intro gn13 cn13 v5 l13 HQ13 HOW13 HG13 HC13 HBg13
          have hsv5 := HC13.out.size
          have hltv5 := HOW13.out.lt
          have hgev5 := HOW13.out.ge
          have hgg13 : gn13 = gn8 ∨ gn13 = v4.heap.size := HG13.out
          have HBVv5 := Lib.hid (HBVv4.out.trans (HC13.out.below (by have := HBVv4.out.size; omega) (fun k hk => by omega)))
          replace k0 := (HC13.out.cell (p := ⟨nb, 0, none⟩) (by simp only; omega) (by simp only; omega)).trans k0
          replace k1 := (HC13.out.cell (p := ⟨nb, 1, none⟩) (by simp only; omega) (by simp only; omega)).trans k1
          replace f0 := (HC13.out.cell (p := ⟨fb, 0, none⟩) (by simp only; omega) (by simp only; omega)).trans f0
          replace f1 := (HC13.out.cell (p := ⟨fb, 1, none⟩) (by simp only; omega) (by simp only; omega)).trans f1
          clear SRC HC13 HBg13 HG13 HELV HOW8
          go_wp2_with fail
          refine hK.out _ _ (fun _ => ?_) (fun hHeld => ?_)
          · ((try dsimp only); first | exact ⟨k0, k1, f0, f1⟩ | exact ⟨(World.cell?_alloc_lt _ _ _ (by simp only; omega)).trans k0, (World.cell?_alloc_lt _ _ _ (by simp only; omega)).trans k1, (World.cell?_alloc_lt _ _ _ (by simp only; omega)).trans f0, (World.cell?_alloc_lt _ _ _ (by simp only; omega)).trans f1⟩)
          replace hHeld := hHeld (by rfl)
          clear hK K
          (try simp only [Act.put, List.setIfInBounds_toArray, List.set_cons_zero, List.set_cons_succ])
          obtain ⟨w10, hw10⟩ : ∃ w10, w10 = v5 := ⟨_, rfl⟩
          obtain ⟨gi, hgi0⟩ : ∃ gi, gi = gn13 := ⟨_, rfl⟩
          obtain ⟨ci, hci0⟩ : ∃ ci, ci = cn13 := ⟨_, rfl⟩
          obtain ⟨zs, hzs⟩ : ∃ zs, zs = l13 := ⟨_, rfl⟩
          have HOX := HOW13
          rw [← hw10, ← hgi0, ← hci0, ← hzs] at HOX
          rw [← hw10, ← hgi0, ← hci0, ← hzs]
          have HZ : Hid (zs = xs.take k ++ (q, lf) :: xs.drop k) := Lib.hid (by rw [hzs, HQ13.out, HQ8.out, HQ5.out]; simp)
          obtain ⟨Ti, HTi, HOI⟩ : ∃ Ti : Nat → Prop, Hid (∀ b, Ti b → (fun b => w.heap.size + 2 ≤ b ∧ b < nb) b ∨ b = gf) ∧ Hid (OwS true 2 (EN true) 75 w10 Ti wE.heap.size (some ⟨gi, 0, none⟩) ci zs) := ⟨_, Lib.hid (by
            rintro b (((h | ⟨j, _, h⟩) | h) | ⟨j, _, h⟩)
            · exact h.elim
            · exact .inl (HFT.out j b h)
            · exact .inr h
            · exact .inl (HFT.out j b h)), HOX⟩
          have HRZ : Hid (rcvS st q lf xs = relR st zs []) := Lib.hid (HRS.out _ (by rw [HINS.out, HZ.out]))
          have HZL : Hid (zs.length = xs.length + 1) := Lib.hid (by rw [HZ.out]; simp; omega)
          have HIC := Lib.hid HOI.out.cap
          have hbz := HBVv5.out
          rw [← hw10] at hbz
          have hs10 := hbz.size
          have hgi : wE.heap.size ≤ gi := HOI.out.ge
          have hgi2 : gi < w10.heap.size := HOI.out.lt
          have HB10 := Lib.hid (HBE.out.trans (hbz.mono HBE.out.size))
          have HO10 := Lib.hid (OwS.below (R := EB true) EB.framed HOE.out hbz)
          rw [← hw10] at k0 k1 f0 f1
          replace k2 := (hbz.frozen (p := ⟨nb, 0, none⟩) (by simp only; omega)).trans k2
          replace k3 := (hbz.frozen (p := ⟨nb, 1, none⟩) (by simp only; omega)).trans k3
          replace r0 := (hbz.cell (p := ⟨w.heap.size + 1, 0, none⟩) (by simp only; omega)).trans r0
          replace r1 := (hbz.cell (p := ⟨w.heap.size + 1, 1, none⟩) (by simp only; omega)).trans r1
          replace z0 := (hbz.frozen (p := ⟨w.heap.size + 1, 0, none⟩) (by simp only; omega)).trans z0
          replace z1 := (hbz.frozen (p := ⟨w.heap.size + 1, 1, none⟩) (by simp only; omega)).trans z1
          rw [← hw10] at hHeld
          clear hbz HOX HOW13 hw10 hgi0 hci0 hzs hgg5 hgg8 hgg13 hs1 hs2 hltv2 hgev2 hltv4 hgev4 hltv5 hgev5
          refine wpAnyG_takeW [15] (i := 14) (d := some 105) (v := ?_) (by simp only [List.getElem?_toArray, List.getElem?_cons_succ, List.getElem?_cons_zero]; rfl) (by rfl) (by kernel_rfl) (by kernel_rfl) (by kernel_rfl) (by kernel_rfl) (by kernel_rfl) (by intro _ _ _ h; exact h) (by rfl) ?_ (by assumption) ?_
          rotate_left 1
          · (intro w hSw; (try dsimp only at hSw); go_simp; try (with_reducible rfl))
          (try simp only [Act.put, List.setIfInBounds_toArray, List.set_cons_zero, List.set_cons_succ])
          refine wpAnyG_ready (rs := [15]) (by kernel_rfl) (by simp) ?_
          refine (AllReadyG.cons (i := 15) (by simp only [List.getElem?_toArray, List.getElem?_cons_succ, List.getElem?_cons_zero]; rfl) (fun K hK => ?_) AllReadyG.nil)
          go_simp
          go_wp2_with fail
          refine hK.out _ _ (fun h => by cases h) (fun _ => ?_)
          clear hK K
          (try simp only [Act.put, List.setIfInBounds_toArray, List.set_cons_zero, List.set_cons_succ])
          refine wpAnyG_done (by kernel_rfl) ?_ _
          have hst : Chg (fun b => b = nb) w10 (w10.setCell ⟨nb, 1, none⟩ (.slice (some ⟨gi, 0, none⟩) zs.length ci)) := Chg.setCell_ (S := fun b => b = nb) (Chg.refl _ _) (p := ⟨nb, 1, none⟩) rfl _
          have hss := hst.size
          have R0 := Lib.hid ((hst.cell (p := ⟨w.heap.size + 1, 0, none⟩) (by simp only; omega) (by simp only; omega)).trans r0)
          have R1 := Lib.hid ((hst.cell (p := ⟨w.heap.size + 1, 1, none⟩) (by simp only; omega) (by simp only; omega)).trans r1)
          have ZZ0 := Lib.hid ((hst.frozen (p := ⟨w.heap.size + 1, 0, none⟩) (by simp only; omega) (by simp only; omega)).trans z0)
          have ZZ1 := Lib.hid ((hst.frozen (p := ⟨w.heap.size + 1, 1, none⟩) (by simp only; omega) (by simp only; omega)).trans z1)
          have HBs := Lib.hid (HB10.out.trans (hst.below (by omega) (fun k hk => by omega)))
          have HOs := Lib.hid (OwS.frame (R := EB true) EB.framed HO10.out hst (fun b h1 h2 => by have := HD2.out b h1; omega) (fun a' ha' h2 => by injection ha' with ha'; subst ha'; simp only at h2; omega))
          have HTI2 : Hid (∀ b, Ti b → w.heap.size + 2 ≤ b ∧ b < wE.heap.size ∧ b ≠ nb ∧ b ≠ w2.heap.size ∧ ¬ (fun _ => False) b) := Lib.hid (fun b hb => by
            rcases HTi.out b hb with h | h
            · have := HD1.out b h; exact ⟨by omega, by omega, by omega, by omega, this.2.2.2.2⟩
            · exact ⟨by omega, by omega, by omega, by omega, fun h2 => by have := HD2.out b h2; omega⟩)
          have HIs := Lib.hid (OwS.slT (T := fun b => Ti b ∨ b = gi) (OwS.widerT (OwS.frame (R := EN true) EN.framed HOI.out hst (fun b h1 h2 => by have := HTI2.out b h1; omega) (fun a' ha' h2 => by injection ha' with ha'; subst ha'; simp only at h2; omega)) (fun b h _ => .inl h)) (fun a ha => by injection ha with ha; subst ha; exact .inr rfl))
          have HSPI := Lib.hid (HOI.out.spare.frame hst (fun a ha h2 => by injection ha with ha; subst ha; simp only at h2; omega))
          obtain ⟨z, hz⟩ : ∃ z, z = relR st zs [] := ⟨_, rfl⟩
          have HR2 := Lib.hid hz
          have HR : Hid (rcvS st q lf xs = z) := Lib.hid (by rw [HRZ.out, hz])
          have HSSz := Lib.hid hss
          have hne01 : ¬ nb = w.heap.size + 1 := by omega
          have hne10 : ¬ w.heap.size + 1 = nb := by omega
          clear hst r0 r1 z0 z1 hss hz
          go_wp2_with fail
          have hss := HSSz.out
          refine (specRelS_any (T1 := fun b => Ti b ∨ b = gi) (T2 := (fun _ => False)) st (some ⟨gi, 0, none⟩) ci zs w2.heap.size 0 [] (w.heap.size + 2) _ HIs.out HIC.out HSPI.out (by have h1 := HL8.out; have h2 := HLB.out; have h3 := HZL.out; omega) HOs.out (fun a ha => by injection ha with ha; subst ha; exact ⟨by simp only; omega, by simp only; omega⟩) (fun b hb => ?a1) (fun b hb => ?a2) (by omega)).mono ?_
          case a1 =>
            rcases hb with hb | hb
            · have h1 := HTI2.out b hb; exact ⟨by omega, h1.2.2.2.2, by omega⟩
            · exact ⟨by omega, fun h => by have := HD2.out b h; omega, by omega⟩
          case a2 => have h1 := HD2.out b hb; omega
          rw [← HR2.out]
          rintro e w12 ⟨A4, c4, gb4, cb4, T14, T24, rfl, hc4, hcap4, hd41, hd42, hs4, ho4, hgb, hspx, hspy⟩
          have hsz4 := hc4.size
          have r0 := (hc4.cell (p := ⟨w.heap.size + 1, 0, none⟩) (by simp only; omega) (by simp only; omega)).trans R0.out
          have r1 := (hc4.cell (p := ⟨w.heap.size + 1, 1, none⟩) (by simp only; omega) (by simp only; omega)).trans R1.out
          have z0 := (hc4.frozen (p := ⟨w.heap.size + 1, 0, none⟩) (by simp only; omega) (by simp only; omega)).trans ZZ0.out
          have z1 := (hc4.frozen (p := ⟨w.heap.size + 1, 1, none⟩) (by simp only; omega) (by simp only; omega)).trans ZZ1.out
          have HB4 := Lib.hid (HBs.out.trans (hc4.below (by omega) (fun k hk => by omega)))
          have HS4 := Lib.hid hs4
          have HSPX := Lib.hid hspx
          have HSPY : Hid (∀ a, A4 = some a → a.block = gi) := Lib.hid (fun a ha => by obtain ⟨a0, q1, q2⟩ := hspy a ha; injection q1 with q1; subst q1; exact q2)
          clear hspx hspy
          have HO4 := Lib.hid ho4
          have HD41 := Lib.hid hd41
          have HD42 := Lib.hid hd42
          have hge4 := ho4.ge
          have hlt4 := ho4.lt
          clear hc4 hs4 ho4 hd41 hd42 R0 R1 ZZ0 ZZ1
          have hfin : Chg (fun b => b = w.heap.size + 1) w12 ((w12.setCell ⟨w.heap.size + 1, 0, none⟩ (.int .i64 z.1)).setCell ⟨w.heap.size + 1, 1, none⟩ (.slice A4 z.2.1.length c4)) := Chg.setCell_ (S := fun b => b = w.heap.size + 1) (Chg.setCell_ (S := fun b => b = w.heap.size + 1) (Chg.refl _ _) (p := ⟨w.heap.size + 1, 0, none⟩) rfl _) (p := ⟨w.heap.size + 1, 1, none⟩) rfl _
          have hv0 : ((w12.setCell ⟨w.heap.size + 1, 0, none⟩ (.int .i64 z.1)).setCell ⟨w.heap.size + 1, 1, none⟩ (.slice A4 z.2.1.length c4)).cell? ⟨w.heap.size + 1, 0, none⟩ = some (.int .i64 z.1) := by rw [World.cell?_setCell_other _ _ _ _ (fun e => by injection e with _ e2; omega)]; exact World.cell?_setCell_same _ _ _ r0
          have hv1 : ((w12.setCell ⟨w.heap.size + 1, 0, none⟩ (.int .i64 z.1)).setCell ⟨w.heap.size + 1, 1, none⟩ (.slice A4 z.2.1.length c4)).cell? ⟨w.heap.size + 1, 1, none⟩ = some (.slice A4 z.2.1.length c4) := World.cell?_setCell_same (u := .slice none 0 0) _ _ _ (by rw [World.cell?_setCell_other _ _ _ _ (fun e => by injection e with _ e2; omega)]; exact r1)
          have HF := Lib.hid hfin
          have HV0 := Lib.hid hv0
          have HV1 := Lib.hid hv1
          clear hfin hv0 hv1
          go_simp
          repeat (first | go_skip | go_guarded | go_step | go_upon)
          refine bodyPost_ret (v := .tuple #[.agg #[.int .i64 z.1, .slice A4 z.2.1.length c4], .slice (some ⟨gb4, 0, none⟩) z.2.2.length cb4]) (by simp [results, Try.results22, go_sem, HV0.out, HV1.out]) rfl ?_
          rw [HR.out]
          have h1 := HF.out.size
          have t1 : ∀ b, T14 b → w.heap.size + 2 ≤ b ∧ b < w10.heap.size ∧ b ≠ w2.heap.size := fun b hb => by
            rcases (HD41.out b hb).1 with h | h
            · have := HTI2.out b h; exact ⟨by omega, by omega, by omega⟩
            · subst h; exact ⟨by omega, by omega, by omega⟩
          have t2 : ∀ b, T24 b → w.heap.size + 2 ≤ b ∧ b < w10.heap.size := fun b hb => by
            rcases HD42.out b hb with h | h | h
            · have := HD2.out b h; omega
            · have := HTI2.out b h; omega
            · subst h; omega
          refine ⟨A4, c4, gb4, cb4, T14, (fun b => T24 b ∨ b = gb4), rfl, HB4.out.trans (HF.out.below (by omega) (fun k hk => by omega)), hcap4, fun b hb => ⟨by have := t1 b hb; omega, by have := t1 b hb; omega, fun h => ?_⟩, fun b hb => ?_, Sl.frame (R := EN true) EN.framed HS4.out HF.out (fun b hb h2 => by have := t1 b hb; omega), ((OwS.frame (R := EB true) EB.framed HO4.out HF.out (fun b hb h2 => by have := t2 b hb; omega) (fun a' ha' h2 => by injection ha' with ha'; subst ha'; simp only at h2; omega)).lower (by omega)).widerT (fun b h1 h2 => .inl h1), .inr rfl, HSPX.out.frame HF.out (fun a ha h2 => by have := HSPY.out a ha; omega), fun a ha => by have := HSPY.out a ha; omega⟩
          · rcases h with h | h
            · exact (HD41.out b hb).2 h
            · have := t1 b hb; omega
          · rcases hb with h | h
            · have := t2 b h; omega
            · subst h; omega
        · go_simp
          go_wp2_with fail
          refine hK.out _ _ (fun _ => ?_) (fun hHeld => ?_)
          · ((try dsimp only); first | exact ⟨k0, k1, f0, f1⟩ | exact ⟨(World.cell?_alloc_lt _ _ _ (by simp only; omega)).trans k0, (World.cell?_alloc_lt _ _ _ (by simp only; omega)).trans k1, (World.cell?_alloc_lt _ _ _ (by simp only; omega)).trans f0, (World.cell?_alloc_lt _ _ _ (by simp only; omega)).trans f1⟩)
          replace hHeld := hHeld (by rfl)
          clear hK K
          (try simp only [Act.put, List.setIfInBounds_toArray, List.set_cons_zero, List.set_cons_succ])
          obtain ⟨v2, hv⟩ : ∃ v, v = v1.alloc (.cells #[.int .i64 q, .slice (some ⟨gf, 0, none⟩) lf.length cf] 75) := ⟨_, rfl⟩
          rw [← hv] at hHeld ⊢
          have hbv : Below v1.heap.size v1 v2 := by rw [hv]; exact Below.alloc (Below.refl _ _) (Nat.le_refl _) _
          have hsv2 : v1.heap.size < v2.heap.size := by rw [hv]; simp
          have HBVv2 := Lib.hid (HBVv1.out.trans (hbv.mono HBVv1.out.size))
          obtain ⟨gq, hgq⟩ : ∃ gq, gq = v1.heap.size := ⟨_, rfl⟩
          have HFB : Hid (v2.heap[gq]? = some (.cells #[.int .i64 q, .slice (some ⟨gf, 0, none⟩) lf.length cf] 75)) := Lib.hid (by rw [hv, hgq]; exact World.heap_new _ _ _ rfl)
          replace k0 := (hbv.cell (p := ⟨nb, 0, none⟩) (by simp only; omega)).trans k0
          replace k1 := (hbv.cell (p := ⟨nb, 1, none⟩) (by simp only; omega)).trans k1
          replace f0 := (hbv.cell (p := ⟨fb, 0, none⟩) (by simp only; omega)).trans f0
          replace f1 := (hbv.cell (p := ⟨fb, 1, none⟩) (by simp only; omega)).trans f1
          replace HON := Lib.hid (OwS.below (R := EN true) EN.framed HON.out hbv)
          clear hbv hv
          rw [← hgq]
          have hgq1 : v1.heap.size ≤ gq := Nat.le_of_eq hgq.symm
          have hgq2 : gq < v2.heap.size := by omega
          clear hgq
          refine wpAnyG_ready (rs := [5]) (by kernel_rfl) (by simp) ?_
          refine (AllReadyG.cons (i := 5) (by simp only [List.getElem?_toArray, List.getElem?_cons_succ, List.getElem?_cons_zero]; rfl) (fun K hK => ?_) AllReadyG.nil)
          have HELV : Hid (Els 2 (EN true) v2 ga oa F xs) := Lib.hid (fun j hj => EN.framed (HEL.out j hj) (HGL.out (fun e => by rw [e] at hj; simp at hj)).1 (Chg.of_below (S := fun _ => False) HBVv2.out) (fun h => h) (fun _ _ h => h))
          have SRC : Hid (Src true 2 (EN true) v2 (fun _ => False) (fun b => ∃ j, j < k ∧ F j b) gn A1 (xs.take k)) := Lib.hid (Src.take k (fun h => HA1.out _ _ (HA.out h)) (fun h => by have := (HGL.out h).1; omega) HELV.out (fun j b hb => ⟨by have := HD1.out b (HFT.out j b hb); omega, by have := HD1.out b (HFT.out j b hb); omega, fun _ h => h⟩) HSEP.out)
          refine step_appW (R := EN true) (u := true) (w0 := v2) (xs := ([] : List NF)) (ys := (xs.take k)) (T := (fun _ => False)) (Fn := (fun b => ∃ j, j < k ∧ F j b)) rfl EN.mov EN.cls (.tmp 91) (.tmp 95) 26 rfl 75 i0 (.agg #[.int .i64 0, .slice none 0 0]) 32 Try.underlying26 hI0 hz0 hz1 hz2 (by simp [Value.cells]) (by decide) rfl HON.out (Below.refl _ _) (by rw [List.length_take, Nat.min_eq_left hk]; rfl) SRC.out (by have := HL8.out; simp only [List.length_nil, List.length_take]; omega) (by decide) (by omega) ?_
          intro gn5 cn5 v3 l5 HQ5 HOW5 HG5 HC5 HBg5
          have hsv3 := HC5.out.size
          have hltv3 := HOW5.out.lt
          have hgev3 := HOW5.out.ge
          have hgg5 : gn5 = gn ∨ gn5 = v2.heap.size := HG5.out
          have HBVv3 := Lib.hid (HBVv2.out.trans (HC5.out.below (by have := HBVv2.out.size; omega) (fun k hk => by omega)))
          replace k0 := (HC5.out.cell (p := ⟨nb, 0, none⟩) (by simp only; omega) (by simp only; omega)).trans k0
          replace k1 := (HC5.out.cell (p := ⟨nb, 1, none⟩) (by simp only; omega) (by simp only; omega)).trans k1
          replace f0 := (HC5.out.cell (p := ⟨fb, 0, none⟩) (by simp only; omega) (by simp only; omega)).trans f0
          replace f1 := (HC5.out.cell (p := ⟨fb, 1, none⟩) (by simp only; omega) (by simp only; omega)).trans f1
          replace HFB := Lib.hid ((HC5.out.block gq (by omega) (by omega)).trans HFB.out)
          clear SRC HC5 HBg5 HG5 HELV HON
          go_wp2_with fail
          refine hK.out _ _ (fun _ => ?_) (fun hHeld => ?_)
          · ((try dsimp only); first | exact ⟨k0, k1, f0, f1⟩ | exact ⟨(World.cell?_alloc_lt _ _ _ (by simp only; omega)).trans k0, (World.cell?_alloc_lt _ _ _ (by simp only; omega)).trans k1, (World.cell?_alloc_lt _ _ _ (by simp only; omega)).trans f0, (World.cell?_alloc_lt _ _ _ (by simp only; omega)).trans f1⟩)
          replace hHeld := hHeld (by rfl)
          clear hK K
          (try simp only [Act.put, List.setIfInBounds_toArray, List.set_cons_zero, List.set_cons_succ])
          refine wpAnyG_ready (rs := [8]) (by kernel_rfl) (by simp) ?_
          refine (AllReadyG.cons (i := 8) (by simp only [List.getElem?_toArray, List.getElem?_cons_succ, List.getElem?_cons_zero]; rfl) (fun K hK => ?_) AllReadyG.nil)
          have SRC : Hid (Src true 2 (EN true) v3 (fun b => False ∨ ∃ j, j < k ∧ F j b) (fun b => b = gf) gn5 (some ⟨gq, 0, none⟩) [(q, lf)]) := Lib.hid (Src.one (by omega) (by have e0 := block_cell HFB.out 0; have e1 := block_cell HFB.out 1; exact ⟨e0.1, fun _ => e0.2, _, _, e1.1, fun _ => e1.2, HFR.out.below HBVv3.out⟩) (fun b hb => ⟨by omega, by omega, fun _ h => by rcases h with h | ⟨j, _, h⟩; exact h; have := HD1.out b (HFT.out j b h); omega⟩))
          refine step_appW (R := EN true) (u := true) (w0 := v3) (xs := l5) (ys := [(q, lf)]) (T := (fun b => False ∨ ∃ j, j < k ∧ F j b)) (Fn := (fun b => b = gf)) rfl EN.mov EN.cls (.tmp 96) (.tmp 98) 26 rfl 75 i0 (.agg #[.int .i64 0, .slice none 0 0]) 32 Try.underlying26 hI0 hz0 hz1 hz2 (by simp [Value.cells]) (by decide) rfl HOW5.out (Below.refl _ _) rfl SRC.out (by have := HL8.out; have := HQ5.out; rw [this]; simp; omega) (by decide) (by omega) ?_
          intro gn8 cn8 v4 l8 HQ8 HOW8 HG8 HC8 HBg8
          have hsv4 := HC8.out.size
          have hltv4 := HOW8.out.lt
          have hgev4 := HOW8.out.ge
          have hgg8 : gn8 = gn5 ∨ gn8 = v3.heap.size := HG8.out
          have HBVv4 := Lib.hid (HBVv3.out.trans (HC8.out.below (by have := HBVv3.out.size; omega) (fun k hk => by omega)))
          replace k0 := (HC8.out.cell (p := ⟨nb, 0, none⟩) (by simp only; omega) (by simp only; omega)).trans k0
          replace k1 := (HC8.out.cell (p := ⟨nb, 1, none⟩) (by simp only; omega) (by simp only; omega)).trans k1
          replace f0 := (HC8.out.cell (p := ⟨fb, 0, none⟩) (by simp only; omega) (by simp only; omega)).trans f0
          replace f1 := (HC8.out.cell (p := ⟨fb, 1, none⟩) (by simp only; omega) (by simp only; omega)).trans f1
          clear SRC HC8 HBg8 HG8 HOW5
          go_wp2_with fail
          refine hK.out _ _ (fun _ => ?_) (fun hHeld => ?_)
          · ((try dsimp only); first | exact ⟨k0, k1, f0, f1⟩ | exact ⟨(World.cell?_alloc_lt _ _ _ (by simp only; omega)).trans k0, (World.cell?_alloc_lt _ _ _ (by simp only; omega)).trans k1, (World.cell?_alloc_lt _ _ _ (by simp only; omega)).trans f0, (World.cell?_alloc_lt _ _ _ (by simp only; omega)).trans f1⟩)
          replace hHeld := hHeld (by rfl)
          clear hK K
          (try simp only [Act.put, List.setIfInBounds_toArray, List.set_cons_zero, List.set_cons_succ])
          refine wpAnyG_ready (rs := [13]) (by kernel_rfl) (by simp) ?_
          refine (AllReadyG.cons (i := 13) (by simp only [List.getElem?_toArray, List.getElem?_cons_succ, List.getElem?_cons_zero]; rfl) (fun K hK => ?_) AllReadyG.nil)
          have HELV : Hid (Els 2 (EN true) v4 ga oa F xs) := Lib.hid (fun j hj => EN.framed (HEL.out j hj) (HGL.out (fun e => by rw [e] at hj; simp at hj)).1 (Chg.of_below (S := fun _ => False) HBVv4.out) (fun h => h) (fun _ _ h => h))
          have SRC : Hid (Src true 2 (EN true) v4 (fun b => (False ∨ ∃ j, j < k ∧ F j b) ∨ b = gf) (fun b => ∃ j, k ≤ j ∧ F j b) gn8 A2 (xs.drop k)) := Lib.hid (Src.drop k (fun h => HA2.out _ _ (HA.out (fun e => by rw [e] at h; simp at h)) h) (fun h => by have := (HGL.out h).1; omega) HELV.out (fun j b hj hb => ⟨by have := HD1.out b (HFT.out j b hb); omega, by have := HD1.out b (HFT.out j b hb); omega, fun _ h => by rcases h with (h | ⟨j', h1, h2⟩) | h; exact h; have := HSEP.out _ _ b hb h2; omega; have := HD1.out b (HFT.out j b hb); omega⟩) HSEP.out)
          refine step_appW (R := EN true) (u := true) (w0 := v4) (xs := l8) (ys := (xs.drop k)) (T := (fun b => (False ∨ ∃ j, j < k ∧ F j b) ∨ b = gf)) (Fn := (fun b => ∃ j, k ≤ j ∧ F j b)) rfl EN.mov EN.cls (.tmp 99) (.tmp 103) 26 rfl 75 i0 (.agg #[.int .i64 0, .slice none 0 0]) 32 Try.underlying26 hI0 hz0 hz1 hz2 (by simp [Value.cells]) (by decide) rfl HOW8.out (Below.refl _ _) (by rw [List.length_drop]; rfl) SRC.out (by have := HL8.out; have := HQ8.out; have := HQ5.out; rw [HQ8.out, HQ5.out]; simp; omega) (by decide) (by omega) ?_
          intro gn13 cn13 v5 l13 HQ13 HOW13 HG13 HC13 HBg13
          have hsv5 := HC13.out.size
          have hltv5 := HOW13.out.lt
          have hgev5 := HOW13.out.ge
          have hgg13 : gn13 = gn8 ∨ gn13 = v4.heap.size := HG13.out
          have HBVv5 := Lib.hid (HBVv4.out.trans (HC13.out.below (by have := HBVv4.out.size; omega) (fun k hk => by omega)))
          replace k0 := (HC13.out.cell (p := ⟨nb, 0, none⟩) (by simp only; omega) (by simp only; omega)).trans k0
          replace k1 := (HC13.out.cell (p := ⟨nb, 1, none⟩) (by simp only; omega) (by simp only; omega)).trans k1
          replace f0 := (HC13.out.cell (p := ⟨fb, 0, none⟩) (by simp only; omega) (by simp only; omega)).trans f0
          replace f1 := (HC13.out.cell (p := ⟨fb, 1, none⟩) (by simp only; omega) (by simp only; omega)).trans f1
          clear SRC HC13 HBg13 HG13 HELV HOW8
          go_wp2_with fail
          refine hK.out _ _ (fun _ => ?_) (fun hHeld => ?_)
          · ((try dsimp only); first | exact ⟨k0, k1, f0, f1⟩ | exact ⟨(World.cell?_alloc_lt _ _ _ (by simp only; omega)).trans k0, (World.cell?_alloc_lt _ _ _ (by simp only; omega)).trans k1, (World.cell?_alloc_lt _ _ _ (by simp only; omega)).trans f0, (World.cell?_alloc_lt _ _ _ (by simp only; omega)).trans f1⟩)
          replace hHeld := hHeld (by rfl)
          clear hK K
          (try simp only [Act.put, List.setIfInBounds_toArray, List.set_cons_zero, List.set_cons_succ])
          obtain ⟨w10, hw10⟩ : ∃ w10, w10 = v5 := ⟨_, rfl⟩
          obtain ⟨gi, hgi0⟩ : ∃ gi, gi = gn13 := ⟨_, rfl⟩
          obtain ⟨ci, hci0⟩ : ∃ ci, ci = cn13 := ⟨_, rfl⟩
          obtain ⟨zs, hzs⟩ : ∃ zs, zs = l13 := ⟨_, rfl⟩
          have HOX := HOW13
          rw [← hw10, ← hgi0, ← hci0, ← hzs] at HOX
          rw [← hw10, ← hgi0, ← hci0, ← hzs]
          have HZ : Hid (zs = xs.take k ++ (q, lf) :: xs.drop k) := Lib.hid (by rw [hzs, HQ13.out, HQ8.out, HQ5.out]; simp)
          obtain ⟨Ti, HTi, HOI⟩ : ∃ Ti : Nat → Prop, Hid (∀ b, Ti b → (fun b => w.heap.size + 2 ≤ b ∧ b < nb) b ∨ b = gf) ∧ Hid (OwS true 2 (EN true) 75 w10 Ti wE.heap.size (some ⟨gi, 0, none⟩) ci zs) := ⟨_, Lib.hid (by
            rintro b (((h | ⟨j, _, h⟩) | h) | ⟨j, _, h⟩)
            · exact h.elim
            · exact .inl (HFT.out j b h)
            · exact .inr h
            · exact .inl (HFT.out j b h)), HOX⟩
          have HRZ : Hid (rcvS st q lf xs = relR st zs []) := Lib.hid (HRS.out _ (by rw [HINS.out, HZ.out]))
          have HZL : Hid (zs.length = xs.length + 1) := Lib.hid (by rw [HZ.out]; simp; omega)
          have HIC := Lib.hid HOI.out.cap
          have hbz := HBVv5.out
          rw [← hw10] at hbz
          have hs10 := hbz.size
          have hgi : wE.heap.size ≤ gi := HOI.out.ge
          have hgi2 : gi < w10.heap.size := HOI.out.lt
          have HB10 := Lib.hid (HBE.out.trans (hbz.mono HBE.out.size))
          have HO10 := Lib.hid (OwS.below (R := EB true) EB.framed HOE.out hbz)
          rw [← hw10] at k0 k1 f0 f1
          replace k2 := (hbz.frozen (p := ⟨nb, 0, none⟩) (by simp only; omega)).trans k2
          replace k3 := (hbz.frozen (p := ⟨nb, 1, none⟩) (by simp only; omega)).trans k3
          replace r0 := (hbz.cell (p := ⟨w.heap.size + 1, 0, none⟩) (by simp only; omega)).trans r0
          replace r1 := (hbz.cell (p := ⟨w.heap.size + 1, 1, none⟩) (by simp only; omega)).trans r1
          replace z0 := (hbz.frozen (p := ⟨w.heap.size + 1, 0, none⟩) (by simp only; omega)).trans z0
          replace z1 := (hbz.frozen (p := ⟨w.heap.size + 1, 1, none⟩) (by simp only; omega)).trans z1
          rw [← hw10] at hHeld
          clear hbz HOX HOW13 hw10 hgi0 hci0 hzs hgg5 hgg8 hgg13 hs1 hs2 hltv3 hgev3 hltv4 hgev4 hltv5 hgev5
          refine wpAnyG_takeW [15] (i := 14) (d := some 105) (v := ?_) (by simp only [List.getElem?_toArray, List.getElem?_cons_succ, List.getElem?_cons_zero]; rfl) (by rfl) (by kernel_rfl) (by kernel_rfl) (by kernel_rfl) (by kernel_rfl) (by kernel_rfl) (by intro _ _ _ h; exact h) (by rfl) ?_ (by assumption) ?_
          rotate_left 1
          · (intro w hSw; (try dsimp only at hSw); go_simp; try (with_reducible rfl))
          (try simp only [Act.put, List.setIfInBounds_toArray, List.set_cons_zero, List.set_cons_succ])
          refine wpAnyG_ready (rs := [15]) (by kernel_rfl) (by simp) ?_
          refine (AllReadyG.cons (i := 15) (by simp only [List.getElem?_toArray, List.getElem?_cons_succ, List.getElem?_cons_zero]; rfl) (fun K hK => ?_) AllReadyG.nil)
          go_simp
          go_wp2_with fail
          refine hK.out _ _ (fun h => by cases h) (fun _ => ?_)
          clear hK K
          (try simp only [Act.put, List.setIfInBounds_toArray, List.set_cons_zero, List.set_cons_succ])
          refine wpAnyG_done (by kernel_rfl) ?_ _
          have hst : Chg (fun b => b = nb) w10 (w10.setCell ⟨nb, 1, none⟩ (.slice (some ⟨gi, 0, none⟩) zs.length ci)) := Chg.setCell_ (S := fun b => b = nb) (Chg.refl _ _) (p := ⟨nb, 1, none⟩) rfl _
          have hss := hst.size
          have R0 := Lib.hid ((hst.cell (p := ⟨w.heap.size + 1, 0, none⟩) (by simp only; omega) (by simp only; omega)).trans r0)
          have R1 := Lib.hid ((hst.cell (p := ⟨w.heap.size + 1, 1, none⟩) (by simp only; omega) (by simp only; omega)).trans r1)
          have ZZ0 := Lib.hid ((hst.frozen (p := ⟨w.heap.size + 1, 0, none⟩) (by simp only; omega) (by simp only; omega)).trans z0)
          have ZZ1 := Lib.hid ((hst.frozen (p := ⟨w.heap.size + 1, 1, none⟩) (by simp only; omega) (by simp only; omega)).trans z1)
          have HBs := Lib.hid (HB10.out.trans (hst.below (by omega) (fun k hk => by omega)))
          have HOs := Lib.hid (OwS.frame (R := EB true) EB.framed HO10.out hst (fun b h1 h2 => by have := HD2.out b h1; omega) (fun a' ha' h2 => by injection ha' with ha'; subst ha'; simp only at h2; omega))
          have HTI2 : Hid (∀ b, Ti b → w.heap.size + 2 ≤ b ∧ b < wE.heap.size ∧ b ≠ nb ∧ b ≠ w2.heap.size ∧ ¬ (fun _ => False) b) := Lib.hid (fun b hb => by
            rcases HTi.out b hb with h | h
            · have := HD1.out b h; exact ⟨by omega, by omega, by omega, by omega, this.2.2.2.2⟩
            · exact ⟨by omega, by omega, by omega, by omega, fun h2 => by have := HD2.out b h2; omega⟩)
          have HIs := Lib.hid (OwS.slT (T := fun b => Ti b ∨ b = gi) (OwS.widerT (OwS.frame (R := EN true) EN.framed HOI.out hst (fun b h1 h2 => by have := HTI2.out b h1; omega) (fun a' ha' h2 => by injection ha' with ha'; subst ha'; simp only at h2; omega)) (fun b h _ => .inl h)) (fun a ha => by injection ha with ha; subst ha; exact .inr rfl))
          have HSPI := Lib.hid (HOI.out.spare.frame hst (fun a ha h2 => by injection ha with ha; subst ha; simp only at h2; omega))
          obtain ⟨z, hz⟩ : ∃ z, z = relR st zs [] := ⟨_, rfl⟩
          have HR2 := Lib.hid hz
          have HR : Hid (rcvS st q lf xs = z) := Lib.hid (by rw [HRZ.out, hz])
          have HSSz := Lib.hid hss
          have hne01 : ¬ nb = w.heap.size + 1 := by omega
          have hne10 : ¬ w.heap.size + 1 = nb := by omega
          clear hst r0 r1 z0 z1 hss hz
          go_wp2_with fail
          have hss := HSSz.out
          refine (specRelS_any (T1 := fun b => Ti b ∨ b = gi) (T2 := (fun _ => False)) st (some ⟨gi, 0, none⟩) ci zs w2.heap.size 0 [] (w.heap.size + 2) _ HIs.out HIC.out HSPI.out (by have h1 := HL8.out; have h2 := HLB.out; have h3 := HZL.out; omega) HOs.out (fun a ha => by injection ha with ha; subst ha; exact ⟨by simp only; omega, by simp only; omega⟩) (fun b hb => ?a1) (fun b hb => ?a2) (by omega)).mono ?_
          case a1 =>
            rcases hb with hb | hb
            · have h1 := HTI2.out b hb; exact ⟨by omega, h1.2.2.2.2, by omega⟩
            · exact ⟨by omega, fun h => by have := HD2.out b h; omega, by omega⟩
          case a2 => have h1 := HD2.out b hb; omega
          rw [← HR2.out]
          rintro e w12 ⟨A4, c4, gb4, cb4, T14, T24, rfl, hc4, hcap4, hd41, hd42, hs4, ho4, hgb, hspx, hspy⟩
          have hsz4 := hc4.size
          have r0 := (hc4.cell (p := ⟨w.heap.size + 1, 0, none⟩) (by simp only; omega) (by simp only; omega)).trans R0.out
          have r1 := (hc4.cell (p := ⟨w.heap.size + 1, 1, none⟩) (by simp only; omega) (by simp only; omega)).trans R1.out
          have z0 := (hc4.frozen (p := ⟨w.heap.size + 1, 0, none⟩) (by simp only; omega) (by simp only; omega)).trans ZZ0.out
          have z1 := (hc4.frozen (p := ⟨w.heap.size + 1, 1, none⟩) (by simp only; omega) (by simp only; omega)).trans ZZ1.out
          have HB4 := Lib.hid (HBs.out.trans (hc4.below (by omega) (fun k hk => by omega)))
          have HS4 := Lib.hid hs4
          have HSPX := Lib.hid hspx
          have HSPY : Hid (∀ a, A4 = some a → a.block = gi) := Lib.hid (fun a ha => by obtain ⟨a0, q1, q2⟩ := hspy a ha; injection q1 with q1; subst q1; exact q2)
          clear hspx hspy
          have HO4 := Lib.hid ho4
          have HD41 := Lib.hid hd41
          have HD42 := Lib.hid hd42
          have hge4 := ho4.ge
          have hlt4 := ho4.lt
          clear hc4 hs4 ho4 hd41 hd42 R0 R1 ZZ0 ZZ1
          have hfin : Chg (fun b => b = w.heap.size + 1) w12 ((w12.setCell ⟨w.heap.size + 1, 0, none⟩ (.int .i64 z.1)).setCell ⟨w.heap.size + 1, 1, none⟩ (.slice A4 z.2.1.length c4)) := Chg.setCell_ (S := fun b => b = w.heap.size + 1) (Chg.setCell_ (S := fun b => b = w.heap.size + 1) (Chg.refl _ _) (p := ⟨w.heap.size + 1, 0, none⟩) rfl _) (p := ⟨w.heap.size + 1, 1, none⟩) rfl _
          have hv0 : ((w12.setCell ⟨w.heap.size + 1, 0, none⟩ (.int .i64 z.1)).setCell ⟨w.heap.size + 1, 1, none⟩ (.slice A4 z.2.1.length c4)).cell? ⟨w.heap.size + 1, 0, none⟩ = some (.int .i64 z.1) := by rw [World.cell?_setCell_other _ _ _ _ (fun e => by injection e with _ e2; omega)]; exact World.cell?_setCell_same _ _ _ r0
          have hv1 : ((w12.setCell ⟨w.heap.size + 1, 0, none⟩ (.int .i64 z.1)).setCell ⟨w.heap.size + 1, 1, none⟩ (.slice A4 z.2.1.length c4)).cell? ⟨w.heap.size + 1, 1, none⟩ = some (.slice A4 z.2.1.length c4) := World.cell?_setCell_same (u := .slice none 0 0) _ _ _ (by rw [World.cell?_setCell_other _ _ _ _ (fun e => by injection e with _ e2; omega)]; exact r1)
          have HF := Lib.hid hfin
          have HV0 := Lib.hid hv0
          have HV1 := Lib.hid hv1
          clear hfin hv0 hv1
          go_simp
          repeat (first | go_skip | go_guarded | go_step | go_upon)
          refine bodyPost_ret (v := .tuple #[.agg #[.int .i64 z.1, .slice A4 z.2.1.length c4], .slice (some ⟨gb4, 0, none⟩) z.2.2.length cb4]) (by simp [results, Try.results22, go_sem, HV0.out, HV1.out]) rfl ?_
          rw [HR.out]
          have h1 := HF.out.size
          have t1 : ∀ b, T14 b → w.heap.size + 2 ≤ b ∧ b < w10.heap.size ∧ b ≠ w2.heap.size := fun b hb => by
            rcases (HD41.out b hb).1 with h | h
            · have := HTI2.out b h; exact ⟨by omega, by omega, by omega⟩
            · subst h; exact ⟨by omega, by omega, by omega⟩
          have t2 : ∀ b, T24 b → w.heap.size + 2 ≤ b ∧ b < w10.heap.size := fun b hb => by
            rcases HD42.out b hb with h | h | h
            · have := HD2.out b h; omega
            · have := HTI2.out b h; omega
            · subst h; omega
          refine ⟨A4, c4, gb4, cb4, T14, (fun b => T24 b ∨ b = gb4), rfl, HB4.out.trans (HF.out.below (by omega) (fun k hk => by omega)), hcap4, fun b hb => ⟨by have := t1 b hb; omega, by have := t1 b hb; omega, fun h => ?_⟩, fun b hb => ?_, Sl.frame (R := EN true) EN.framed HS4.out HF.out (fun b hb h2 => by have := t1 b hb; omega), ((OwS.frame (R := EB true) EB.framed HO4.out HF.out (fun b hb h2 => by have := t2 b hb; omega) (fun a' ha' h2 => by injection ha' with ha'; subst ha'; simp only at h2; omega)).lower (by omega)).widerT (fun b h1 h2 => .inl h1), .inr rfl, HSPX.out.frame HF.out (fun a ha h2 => by have := HSPY.out a ha; omega), fun a ha => by have := HSPY.out a ha; omega⟩
          · rcases h with h | h
            · exact (HD41.out b hb).2 h
            · have := t1 b hb; omega
          · rcases hb with h | h
            · have := t2 b h; omega
            · subst h; omega
      · go_simp
        go_wp2_with fail
        refine hK.out _ _ (fun _ => ?_) (fun hHeld => ?_)
        · ((try dsimp only); first | exact ⟨k0, k1, f0, f1⟩ | exact ⟨(World.cell?_alloc_lt _ _ _ (by simp only; omega)).trans k0, (World.cell?_alloc_lt _ _ _ (by simp only; omega)).trans k1, (World.cell?_alloc_lt _ _ _ (by simp only; omega)).trans f0, (World.cell?_alloc_lt _ _ _ (by simp only; omega)).trans f1⟩)
        replace hHeld := hHeld (by rfl)
        clear hK K
        (try simp only [Act.put, List.setIfInBounds_toArray, List.set_cons_zero, List.set_cons_succ])
        obtain ⟨v1, hv⟩ : ∃ v, v = (wE.alloc (.cells #[.int .i64 q, .slice (some ⟨gf, 0, none⟩) lf.length cf] 75)).drew := ⟨_, rfl⟩
        rw [← hv] at hHeld ⊢
        have hbv : Below wE.heap.size wE v1 := by rw [hv]; exact Below.drew (Below.alloc (Below.refl _ _) (Nat.le_refl _) _)
        have hsv1 : wE.heap.size < v1.heap.size := by rw [hv]; simp
        have HBVv1 := Lib.hid (hbv)
        obtain ⟨gq, hgq⟩ : ∃ gq, gq = wE.heap.size := ⟨_, rfl⟩
        have HFB : Hid (v1.heap[gq]? = some (.cells #[.int .i64 q, .slice (some ⟨gf, 0, none⟩) lf.length cf] 75)) := Lib.hid (by rw [hv, hgq]; exact World.heap_new _ _ _ rfl)
        replace k0 := (hbv.cell (p := ⟨nb, 0, none⟩) (by simp only; omega)).trans k0
        replace k1 := (hbv.cell (p := ⟨nb, 1, none⟩) (by simp only; omega)).trans k1
        replace f0 := (hbv.cell (p := ⟨fb, 0, none⟩) (by simp only; omega)).trans f0
        replace f1 := (hbv.cell (p := ⟨fb, 1, none⟩) (by simp only; omega)).trans f1
        clear hbv hv
        rw [← hgq]
        have hgq1 : wE.heap.size ≤ gq := Nat.le_of_eq hgq.symm
        have hgq2 : gq < v1.heap.size := by omega
        clear hgq
        refine wpAnyG_ready (rs := [0]) (by kernel_rfl) (by simp) ?_
        refine (AllReadyG.cons (i := 0) (by simp only [List.getElem?_toArray, List.getElem?_cons_succ, List.getElem?_cons_zero]; rfl) (fun K hK => ?_) AllReadyG.nil)
        go_simp
        go_wp2_with fail
        refine hK.out _ _ (fun _ => ?_) (fun hHeld => ?_)
        · ((try dsimp only); first | exact ⟨k0, k1, f0, f1⟩ | exact ⟨(World.cell?_alloc_lt _ _ _ (by simp only; omega)).trans k0, (World.cell?_alloc_lt _ _ _ (by simp only; omega)).trans k1, (World.cell?_alloc_lt _ _ _ (by simp only; omega)).trans f0, (World.cell?_alloc_lt _ _ _ (by simp only; omega)).trans f1⟩)
        replace hHeld := hHeld (by rfl)
        clear hK K
        (try simp only [Act.put, List.setIfInBounds_toArray, List.set_cons_zero, List.set_cons_succ])
        obtain ⟨v2, hv⟩ : ∃ v, v = v1.alloc (.cells #[] 75) := ⟨_, rfl⟩
        rw [← hv] at hHeld ⊢
        have hbv : Below v1.heap.size v1 v2 := by rw [hv]; exact Below.alloc (Below.refl _ _) (Nat.le_refl _) _
        have hsv2 : v1.heap.size < v2.heap.size := by rw [hv]; simp
        have HBVv2 := Lib.hid (HBVv1.out.trans (hbv.mono HBVv1.out.size))
        obtain ⟨gn, hgn⟩ : ∃ gn, gn = v1.heap.size := ⟨_, rfl⟩
        have HON : Hid (OwS true 2 (EN true) 75 v2 (fun _ => False) wE.heap.size (some ⟨gn, 0, none⟩) 0 []) := Lib.hid (OwS.new (by omega) (by rw [hv, hgn]; exact World.heap_new _ _ _ rfl))
        replace k0 := (hbv.cell (p := ⟨nb, 0, none⟩) (by simp only; omega)).trans k0
        replace k1 := (hbv.cell (p := ⟨nb, 1, none⟩) (by simp only; omega)).trans k1
        replace f0 := (hbv.cell (p := ⟨fb, 0, none⟩) (by simp only; omega)).trans f0
        replace f1 := (hbv.cell (p := ⟨fb, 1, none⟩) (by simp only; omega)).trans f1
        replace HFB := Lib.hid ((hbv.block gq (by omega)).trans HFB.out)
        clear hbv hv
        rw [← hgn]
        have hgn1 : v1.heap.size ≤ gn := Nat.le_of_eq hgn.symm
        have hgn2 : gn < v2.heap.size := by omega
        clear hgn
        refine wpAnyG_ready (rs := [5]) (by kernel_rfl) (by simp) ?_
        refine (AllReadyG.cons (i := 5) (by simp only [List.getElem?_toArray, List.getElem?_cons_succ, List.getElem?_cons_zero]; rfl) (fun K hK => ?_) AllReadyG.nil)
        have HELV : Hid (Els 2 (EN true) v2 ga oa F xs) := Lib.hid (fun j hj => EN.framed (HEL.out j hj) (HGL.out (fun e => by rw [e] at hj; simp at hj)).1 (Chg.of_below (S := fun _ => False) HBVv2.out) (fun h => h) (fun _ _ h => h))
        have SRC : Hid (Src true 2 (EN true) v2 (fun _ => False) (fun b => ∃ j, j < k ∧ F j b) gn A1 (xs.take k)) := Lib.hid (Src.take k (fun h => HA1.out _ _ (HA.out h)) (fun h => by have := (HGL.out h).1; omega) HELV.out (fun j b hb => ⟨by have := HD1.out b (HFT.out j b hb); omega, by have := HD1.out b (HFT.out j b hb); omega, fun _ h => h⟩) HSEP.out)
        refine step_appW (R := EN true) (u := true) (w0 := v2) (xs := ([] : List NF)) (ys := (xs.take k)) (T := (fun _ => False)) (Fn := (fun b => ∃ j, j < k ∧ F j b)) rfl EN.mov EN.cls (.tmp 91) (.tmp 95) 26 rfl 75 i0 (.agg #[.int .i64 0, .slice none 0 0]) 32 Try.underlying26 hI0 hz0 hz1 hz2 (by simp [Value.cells]) (by decide) rfl HON.out (Below.refl _ _) (by rw [List.length_take, Nat.min_eq_left hk]; rfl) SRC.out (by have := HL8.out; simp only [List.length_nil, List.length_take]; omega) (by decide) (by omega) ?_
        intro gn5 cn5 v3 l5 HQ5 HOW5 HG5 HC5 HBg5
        have hsv3 := HC5.out.size
        have hltv3 := HOW5.out.lt
        have hgev3 := HOW5.out.ge
        have hgg5 : gn5 = gn ∨ gn5 = v2.heap.size := HG5.out
        have HBVv3 := Lib.hid (HBVv2.out.trans (HC5.out.below (by have := HBVv2.out.size; omega) (fun k hk => by omega)))
        replace k0 := (HC5.out.cell (p := ⟨nb, 0, none⟩) (by simp only; omega) (by simp only; omega)).trans k0
        replace k1 := (HC5.out.cell (p := ⟨nb, 1, none⟩) (by simp only; omega) (by simp only; omega)).trans k1
        replace f0 := (HC5.out.cell (p := ⟨fb, 0, none⟩) (by simp only; omega) (by simp only; omega)).trans f0
        replace f1 := (HC5.out.cell (p := ⟨fb, 1, none⟩) (by simp only; omega) (by simp only; omega)).trans f1
        replace HFB := Lib.hid ((HC5.out.block gq (by omega) (by omega)).trans HFB.out)
        clear SRC HC5 HBg5 HG5 HELV HON
        go_wp2_with fail
        refine hK.out _ _ (fun _ => ?_) (fun hHeld => ?_)
        · ((try dsimp only); first | exact ⟨k0, k1, f0, f1⟩ | exact ⟨(World.cell?_alloc_lt _ _ _ (by simp only; omega)).trans k0, (World.cell?_alloc_lt _ _ _ (by simp only; omega)).trans k1, (World.cell?_alloc_lt _ _ _ (by simp only; omega)).trans f0, (World.cell?_alloc_lt _ _ _ (by simp only; omega)).trans f1⟩)
        replace hHeld := hHeld (by rfl)
        clear hK K
        (try simp only [Act.put, List.setIfInBounds_toArray, List.set_cons_zero, List.set_cons_succ])
        refine wpAnyG_ready (rs := [8]) (by kernel_rfl) (by simp) ?_
        refine (AllReadyG.cons (i := 8) (by simp only [List.getElem?_toArray, List.getElem?_cons_succ, List.getElem?_cons_zero]; rfl) (fun K hK => ?_) AllReadyG.nil)
        have SRC : Hid (Src true 2 (EN true) v3 (fun b => False ∨ ∃ j, j < k ∧ F j b) (fun b => b = gf) gn5 (some ⟨gq, 0, none⟩) [(q, lf)]) := Lib.hid (Src.one (by omega) (by have e0 := block_cell HFB.out 0; have e1 := block_cell HFB.out 1; exact ⟨e0.1, fun _ => e0.2, _, _, e1.1, fun _ => e1.2, HFR.out.below HBVv3.out⟩) (fun b hb => ⟨by omega, by omega, fun _ h => by rcases h with h | ⟨j, _, h⟩; exact h; have := HD1.out b (HFT.out j b h); omega⟩))
        refine step_appW (R := EN true) (u := true) (w0 := v3) (xs := l5) (ys := [(q, lf)]) (T := (fun b => False ∨ ∃ j, j < k ∧ F j b)) (Fn := (fun b => b = gf)) rfl EN.mov EN.cls (.tmp 96) (.tmp 98) 26 rfl 75 i0 (.agg #[.int .i64 0, .slice none 0 0]) 32 Try.underlying26 hI0 hz0 hz1 hz2 (by simp [Value.cells]) (by decide) rfl HOW5.out (Below.refl _ _) rfl SRC.out (by have := HL8.out; have := HQ5.out; rw [this]; simp; omega) (by decide) (by omega) ?_
        intro gn8 cn8 v4 l8 HQ8 HOW8 HG8 HC8 HBg8
        have hsv4 := HC8.out.size
        have hltv4 := HOW8.out.lt
        have hgev4 := HOW8.out.ge
        have hgg8 : gn8 = gn5 ∨ gn8 = v3.heap.size := HG8.out
        have HBVv4 := Lib.hid (HBVv3.out.trans (HC8.out.below (by have := HBVv3.out.size; omega) (fun k hk => by omega)))
        replace k0 := (HC8.out.cell (p := ⟨nb, 0, none⟩) (by simp only; omega) (by simp only; omega)).trans k0
        replace k1 := (HC8.out.cell (p := ⟨nb, 1, none⟩) (by simp only; omega) (by simp only; omega)).trans k1
        replace f0 := (HC8.out.cell (p := ⟨fb, 0, none⟩) (by simp only; omega) (by simp only; omega)).trans f0
        replace f1 := (HC8.out.cell (p := ⟨fb, 1, none⟩) (by simp only; omega) (by simp only; omega)).trans f1
        clear SRC HC8 HBg8 HG8 HOW5
        go_wp2_with fail
        refine hK.out _ _ (fun _ => ?_) (fun hHeld => ?_)
        · ((try dsimp only); first | exact ⟨k0, k1, f0, f1⟩ | exact ⟨(World.cell?_alloc_lt _ _ _ (by simp only; omega)).trans k0, (World.cell?_alloc_lt _ _ _ (by simp only; omega)).trans k1, (World.cell?_alloc_lt _ _ _ (by simp only; omega)).trans f0, (World.cell?_alloc_lt _ _ _ (by simp only; omega)).trans f1⟩)
        replace hHeld := hHeld (by rfl)
        clear hK K
        (try simp only [Act.put, List.setIfInBounds_toArray, List.set_cons_zero, List.set_cons_succ])
        refine wpAnyG_ready (rs := [13]) (by kernel_rfl) (by simp) ?_
        refine (AllReadyG.cons (i := 13) (by simp only [List.getElem?_toArray, List.getElem?_cons_succ, List.getElem?_cons_zero]; rfl) (fun K hK => ?_) AllReadyG.nil)
        have HELV : Hid (Els 2 (EN true) v4 ga oa F xs) := Lib.hid (fun j hj => EN.framed (HEL.out j hj) (HGL.out (fun e => by rw [e] at hj; simp at hj)).1 (Chg.of_below (S := fun _ => False) HBVv4.out) (fun h => h) (fun _ _ h => h))
        have SRC : Hid (Src true 2 (EN true) v4 (fun b => (False ∨ ∃ j, j < k ∧ F j b) ∨ b = gf) (fun b => ∃ j, k ≤ j ∧ F j b) gn8 A2 (xs.drop k)) := Lib.hid (Src.drop k (fun h => HA2.out _ _ (HA.out (fun e => by rw [e] at h; simp at h)) h) (fun h => by have := (HGL.out h).1; omega) HELV.out (fun j b hj hb => ⟨by have := HD1.out b (HFT.out j b hb); omega, by have := HD1.out b (HFT.out j b hb); omega, fun _ h => by rcases h with (h | ⟨j', h1, h2⟩) | h; exact h; have := HSEP.out _ _ b hb h2; omega; have := HD1.out b (HFT.out j b hb); omega⟩) HSEP.out)
        refine step_appW (R := EN true) (u := true) (w0 := v4) (xs := l8) (ys := (xs.drop k)) (T := (fun b => (False ∨ ∃ j, j < k ∧ F j b) ∨ b = gf)) (Fn := (fun b => ∃ j, k ≤ j ∧ F j b)) rfl EN.mov EN.cls (.tmp 99) (.tmp 103) 26 rfl 75 i0 (.agg #[.int .i64 0, .slice none 0 0]) 32 Try.underlying26 hI0 hz0 hz1 hz2 (by simp [Value.cells]) (by decide) rfl HOW8.out (Below.refl _ _) (by rw [List.length_drop]; rfl) SRC.out (by have := HL8.out; have := HQ8.out; have := HQ5.out; rw [HQ8.out, HQ5.out]; simp; omega) (by decide) (by omega) ?_
        intro gn13 cn13 v5 l13 HQ13 HOW13 HG13 HC13 HBg13
        have hsv5 := HC13.out.size
        have hltv5 := HOW13.out.lt
        have hgev5 := HOW13.out.ge
        have hgg13 : gn13 = gn8 ∨ gn13 = v4.heap.size := HG13.out
        have HBVv5 := Lib.hid (HBVv4.out.trans (HC13.out.below (by have := HBVv4.out.size; omega) (fun k hk => by omega)))
        replace k0 := (HC13.out.cell (p := ⟨nb, 0, none⟩) (by simp only; omega) (by simp only; omega)).trans k0
        replace k1 := (HC13.out.cell (p := ⟨nb, 1, none⟩) (by simp only; omega) (by simp only; omega)).trans k1
        replace f0 := (HC13.out.cell (p := ⟨fb, 0, none⟩) (by simp only; omega) (by simp only; omega)).trans f0
        replace f1 := (HC13.out.cell (p := ⟨fb, 1, none⟩) (by simp only; omega) (by simp only; omega)).trans f1
        clear SRC HC13 HBg13 HG13 HELV HOW8
        go_wp2_with fail
        refine hK.out _ _ (fun _ => ?_) (fun hHeld => ?_)
        · ((try dsimp only); first | exact ⟨k0, k1, f0, f1⟩ | exact ⟨(World.cell?_alloc_lt _ _ _ (by simp only; omega)).trans k0, (World.cell?_alloc_lt _ _ _ (by simp only; omega)).trans k1, (World.cell?_alloc_lt _ _ _ (by simp only; omega)).trans f0, (World.cell?_alloc_lt _ _ _ (by simp only; omega)).trans f1⟩)
        replace hHeld := hHeld (by rfl)
        clear hK K
        (try simp only [Act.put, List.setIfInBounds_toArray, List.set_cons_zero, List.set_cons_succ])
        obtain ⟨w10, hw10⟩ : ∃ w10, w10 = v5 := ⟨_, rfl⟩
        obtain ⟨gi, hgi0⟩ : ∃ gi, gi = gn13 := ⟨_, rfl⟩
        obtain ⟨ci, hci0⟩ : ∃ ci, ci = cn13 := ⟨_, rfl⟩
        obtain ⟨zs, hzs⟩ : ∃ zs, zs = l13 := ⟨_, rfl⟩
        have HOX := HOW13
        rw [← hw10, ← hgi0, ← hci0, ← hzs] at HOX
        rw [← hw10, ← hgi0, ← hci0, ← hzs]
        have HZ : Hid (zs = xs.take k ++ (q, lf) :: xs.drop k) := Lib.hid (by rw [hzs, HQ13.out, HQ8.out, HQ5.out]; simp)
        obtain ⟨Ti, HTi, HOI⟩ : ∃ Ti : Nat → Prop, Hid (∀ b, Ti b → (fun b => w.heap.size + 2 ≤ b ∧ b < nb) b ∨ b = gf) ∧ Hid (OwS true 2 (EN true) 75 w10 Ti wE.heap.size (some ⟨gi, 0, none⟩) ci zs) := ⟨_, Lib.hid (by
          rintro b (((h | ⟨j, _, h⟩) | h) | ⟨j, _, h⟩)
          · exact h.elim
          · exact .inl (HFT.out j b h)
          · exact .inr h
          · exact .inl (HFT.out j b h)), HOX⟩
        have HRZ : Hid (rcvS st q lf xs = relR st zs []) := Lib.hid (HRS.out _ (by rw [HINS.out, HZ.out]))
        have HZL : Hid (zs.length = xs.length + 1) := Lib.hid (by rw [HZ.out]; simp; omega)
        have HIC := Lib.hid HOI.out.cap
        have hbz := HBVv5.out
        rw [← hw10] at hbz
        have hs10 := hbz.size
        have hgi : wE.heap.size ≤ gi := HOI.out.ge
        have hgi2 : gi < w10.heap.size := HOI.out.lt
        have HB10 := Lib.hid (HBE.out.trans (hbz.mono HBE.out.size))
        have HO10 := Lib.hid (OwS.below (R := EB true) EB.framed HOE.out hbz)
        rw [← hw10] at k0 k1 f0 f1
        replace k2 := (hbz.frozen (p := ⟨nb, 0, none⟩) (by simp only; omega)).trans k2
        replace k3 := (hbz.frozen (p := ⟨nb, 1, none⟩) (by simp only; omega)).trans k3
        replace r0 := (hbz.cell (p := ⟨w.heap.size + 1, 0, none⟩) (by simp only; omega)).trans r0
        replace r1 := (hbz.cell (p := ⟨w.heap.size + 1, 1, none⟩) (by simp only; omega)).trans r1
        replace z0 := (hbz.frozen (p := ⟨w.heap.size + 1, 0, none⟩) (by simp only; omega)).trans z0
        replace z1 := (hbz.frozen (p := ⟨w.heap.size + 1, 1, none⟩) (by simp only; omega)).trans z1
        rw [← hw10] at hHeld
        clear hbz HOX HOW13 hw10 hgi0 hci0 hzs hgg5 hgg8 hgg13 hs1 hs2 hltv3 hgev3 hltv4 hgev4 hltv5 hgev5
        refine wpAnyG_takeW [15] (i := 14) (d := some 105) (v := ?_) (by simp only [List.getElem?_toArray, List.getElem?_cons_succ, List.getElem?_cons_zero]; rfl) (by rfl) (by kernel_rfl) (by kernel_rfl) (by kernel_rfl) (by kernel_rfl) (by kernel_rfl) (by intro _ _ _ h; exact h) (by rfl) ?_ (by assumption) ?_
        rotate_left 1
        · (intro w hSw; (try dsimp only at hSw); go_simp; try (with_reducible rfl))
        (try simp only [Act.put, List.setIfInBounds_toArray, List.set_cons_zero, List.set_cons_succ])
        refine wpAnyG_ready (rs := [15]) (by kernel_rfl) (by simp) ?_
        refine (AllReadyG.cons (i := 15) (by simp only [List.getElem?_toArray, List.getElem?_cons_succ, List.getElem?_cons_zero]; rfl) (fun K hK => ?_) AllReadyG.nil)
        go_simp
        go_wp2_with fail
        refine hK.out _ _ (fun h => by cases h) (fun _ => ?_)
        clear hK K
        (try simp only [Act.put, List.setIfInBounds_toArray, List.set_cons_zero, List.set_cons_succ])
        refine wpAnyG_done (by kernel_rfl) ?_ _
        have hst : Chg (fun b => b = nb) w10 (w10.setCell ⟨nb, 1, none⟩ (.slice (some ⟨gi, 0, none⟩) zs.length ci)) := Chg.setCell_ (S := fun b => b = nb) (Chg.refl _ _) (p := ⟨nb, 1, none⟩) rfl _
        have hss := hst.size
        have R0 := Lib.hid ((hst.cell (p := ⟨w.heap.size + 1, 0, none⟩) (by simp only; omega) (by simp only; omega)).trans r0)
        have R1 := Lib.hid ((hst.cell (p := ⟨w.heap.size + 1, 1, none⟩) (by simp only; omega) (by simp only; omega)).trans r1)
        have ZZ0 := Lib.hid ((hst.frozen (p := ⟨w.heap.size + 1, 0, none⟩) (by simp only; omega) (by simp only; omega)).trans z0)
        have ZZ1 := Lib.hid ((hst.frozen (p := ⟨w.heap.size + 1, 1, none⟩) (by simp only; omega) (by simp only; omega)).trans z1)
        have HBs := Lib.hid (HB10.out.trans (hst.below (by omega) (fun k hk => by omega)))
        have HOs := Lib.hid (OwS.frame (R := EB true) EB.framed HO10.out hst (fun b h1 h2 => by have := HD2.out b h1; omega) (fun a' ha' h2 => by injection ha' with ha'; subst ha'; simp only at h2; omega))
        have HTI2 : Hid (∀ b, Ti b → w.heap.size + 2 ≤ b ∧ b < wE.heap.size ∧ b ≠ nb ∧ b ≠ w2.heap.size ∧ ¬ (fun _ => False) b) := Lib.hid (fun b hb => by
          rcases HTi.out b hb with h | h
          · have := HD1.out b h; exact ⟨by omega, by omega, by omega, by omega, this.2.2.2.2⟩
          · exact ⟨by omega, by omega, by omega, by omega, fun h2 => by have := HD2.out b h2; omega⟩)
        have HIs := Lib.hid (OwS.slT (T := fun b => Ti b ∨ b = gi) (OwS.widerT (OwS.frame (R := EN true) EN.framed HOI.out hst (fun b h1 h2 => by have := HTI2.out b h1; omega) (fun a' ha' h2 => by injection ha' with ha'; subst ha'; simp only at h2; omega)) (fun b h _ => .inl h)) (fun a ha => by injection ha with ha; subst ha; exact .inr rfl))
        have HSPI := Lib.hid (HOI.out.spare.frame hst (fun a ha h2 => by injection ha with ha; subst ha; simp only at h2; omega))
        obtain ⟨z, hz⟩ : ∃ z, z = relR st zs [] := ⟨_, rfl⟩
        have HR2 := Lib.hid hz
        have HR : Hid (rcvS st q lf xs = z) := Lib.hid (by rw [HRZ.out, hz])
        have HSSz := Lib.hid hss
        have hne01 : ¬ nb = w.heap.size + 1 := by omega
        have hne10 : ¬ w.heap.size + 1 = nb := by omega
        clear hst r0 r1 z0 z1 hss hz
        go_wp2_with fail
        have hss := HSSz.out
        refine (specRelS_any (T1 := fun b => Ti b ∨ b = gi) (T2 := (fun _ => False)) st (some ⟨gi, 0, none⟩) ci zs w2.heap.size 0 [] (w.heap.size + 2) _ HIs.out HIC.out HSPI.out (by have h1 := HL8.out; have h2 := HLB.out; have h3 := HZL.out; omega) HOs.out (fun a ha => by injection ha with ha; subst ha; exact ⟨by simp only; omega, by simp only; omega⟩) (fun b hb => ?a1) (fun b hb => ?a2) (by omega)).mono ?_
        case a1 =>
          rcases hb with hb | hb
          · have h1 := HTI2.out b hb; exact ⟨by omega, h1.2.2.2.2, by omega⟩
          · exact ⟨by omega, fun h => by have := HD2.out b h; omega, by omega⟩
        case a2 => have h1 := HD2.out b hb; omega
        rw [← HR2.out]
        rintro e w12 ⟨A4, c4, gb4, cb4, T14, T24, rfl, hc4, hcap4, hd41, hd42, hs4, ho4, hgb, hspx, hspy⟩
        have hsz4 := hc4.size
        have r0 := (hc4.cell (p := ⟨w.heap.size + 1, 0, none⟩) (by simp only; omega) (by simp only; omega)).trans R0.out
        have r1 := (hc4.cell (p := ⟨w.heap.size + 1, 1, none⟩) (by simp only; omega) (by simp only; omega)).trans R1.out
        have z0 := (hc4.frozen (p := ⟨w.heap.size + 1, 0, none⟩) (by simp only; omega) (by simp only; omega)).trans ZZ0.out
        have z1 := (hc4.frozen (p := ⟨w.heap.size + 1, 1, none⟩) (by simp only; omega) (by simp only; omega)).trans ZZ1.out
        have HB4 := Lib.hid (HBs.out.trans (hc4.below (by omega) (fun k hk => by omega)))
        have HS4 := Lib.hid hs4
        have HSPX := Lib.hid hspx
        have HSPY : Hid (∀ a, A4 = some a → a.block = gi) := Lib.hid (fun a ha => by obtain ⟨a0, q1, q2⟩ := hspy a ha; injection q1 with q1; subst q1; exact q2)
        clear hspx hspy
        have HO4 := Lib.hid ho4
        have HD41 := Lib.hid hd41
        have HD42 := Lib.hid hd42
        have hge4 := ho4.ge
        have hlt4 := ho4.lt
        clear hc4 hs4 ho4 hd41 hd42 R0 R1 ZZ0 ZZ1
        have hfin : Chg (fun b => b = w.heap.size + 1) w12 ((w12.setCell ⟨w.heap.size + 1, 0, none⟩ (.int .i64 z.1)).setCell ⟨w.heap.size + 1, 1, none⟩ (.slice A4 z.2.1.length c4)) := Chg.setCell_ (S := fun b => b = w.heap.size + 1) (Chg.setCell_ (S := fun b => b = w.heap.size + 1) (Chg.refl _ _) (p := ⟨w.heap.size + 1, 0, none⟩) rfl _) (p := ⟨w.heap.size + 1, 1, none⟩) rfl _
        have hv0 : ((w12.setCell ⟨w.heap.size + 1, 0, none⟩ (.int .i64 z.1)).setCell ⟨w.heap.size + 1, 1, none⟩ (.slice A4 z.2.1.length c4)).cell? ⟨w.heap.size + 1, 0, none⟩ = some (.int .i64 z.1) := by rw [World.cell?_setCell_other _ _ _ _ (fun e => by injection e with _ e2; omega)]; exact World.cell?_setCell_same _ _ _ r0
        have hv1 : ((w12.setCell ⟨w.heap.size + 1, 0, none⟩ (.int .i64 z.1)).setCell ⟨w.heap.size + 1, 1, none⟩ (.slice A4 z.2.1.length c4)).cell? ⟨w.heap.size + 1, 1, none⟩ = some (.slice A4 z.2.1.length c4) := World.cell?_setCell_same (u := .slice none 0 0) _ _ _ (by rw [World.cell?_setCell_other _ _ _ _ (fun e => by injection e with _ e2; omega)]; exact r1)
        have HF := Lib.hid hfin
        have HV0 := Lib.hid hv0
        have HV1 := Lib.hid hv1
        clear hfin hv0 hv1
        go_simp
        repeat (first | go_skip | go_guarded | go_step | go_upon)
        refine bodyPost_ret (v := .tuple #[.agg #[.int .i64 z.1, .slice A4 z.2.1.length c4], .slice (some ⟨gb4, 0, none⟩) z.2.2.length cb4]) (by simp [results, Try.results22, go_sem, HV0.out, HV1.out]) rfl ?_
        rw [HR.out]
        have h1 := HF.out.size
        have t1 : ∀ b, T14 b → w.heap.size + 2 ≤ b ∧ b < w10.heap.size ∧ b ≠ w2.heap.size := fun b hb => by
          rcases (HD41.out b hb).1 with h | h
          · have := HTI2.out b h; exact ⟨by omega, by omega, by omega⟩
          · subst h; exact ⟨by omega, by omega, by omega⟩
        have t2 : ∀ b, T24 b → w.heap.size + 2 ≤ b ∧ b < w10.heap.size := fun b hb => by
          rcases HD42.out b hb with h | h | h
          · have := HD2.out b h; omega
          · have := HTI2.out b h; omega
          · subst h; omega
        refine ⟨A4, c4, gb4, cb4, T14, (fun b => T24 b ∨ b = gb4), rfl, HB4.out.trans (HF.out.below (by omega) (fun k hk => by omega)), hcap4, fun b hb => ⟨by have := t1 b hb; omega, by have := t1 b hb; omega, fun h => ?_⟩, fun b hb => ?_, Sl.frame (R := EN true) EN.framed HS4.out HF.out (fun b hb h2 => by have := t1 b hb; omega), ((OwS.frame (R := EB true) EB.framed HO4.out HF.out (fun b hb h2 => by have := t2 b hb; omega) (fun a' ha' h2 => by injection ha' with ha'; subst ha'; simp only at h2; omega)).lower (by omega)).widerT (fun b h1 h2 => .inl h1), .inr rfl, HSPX.out.frame HF.out (fun a ha h2 => by have := HSPY.out a ha; omega), fun a ha => by have := HSPY.out a ha; omega⟩
        · rcases h with h | h
          · exact (HD41.out b hb).2 h
          · have := t1 b hb; omega
        · rcases hb with h | h
          · have := t2 b h; omega
          · subst h; omega

end Go.Proofs.Ytnfgdgmmbddmgaa
