/- The walk of FnSleeping. -/
import Derived.Test.YtncnlhmakigpgaaSleepL
import Derived.Deep.RegionHeld3
namespace Go.Proofs.Ytncnlhmakigpgaa
open Go.RowKit
set_option linter.unusedVariables false
set_option linter.unusedSimpArgs false
section
variable {P : Program} {ops : Array Oper} {Q : Exit → Act → World → Prop} {md : Region.Mode} {S : World → Prop}
theorem wpAnyH_takeW {i : Nat} {oi : Oper} {v : Value} {fuel : Nat} {listed : Array Bool} {a : Act} {w : World} {d : Option Tmp} (hi : ops[i]? = some oi) (hd : oi.dst = d)
    (hs : Region.noSelect ops = true) (hf : Region.free md ops listed i = true) (hr : (Region.ready md ops listed).contains i = true)
    (hQ : ∀ c a w, Q (.panic c) (a.put d v) w → Q (.panic c) a w) (hw : Region.wanted oi (yielded ops a.tmps) = true) (hv : ∀ w, S w → (execOp a.eval oi).run P w = .ok (.value v) w) (hS : S w)
    (h : wpAnyH P md ops Q S fuel (listed.setIfInBounds i true) (a.put d v) w) : wpAnyH P md ops Q S (fuel + 1) listed a w := by
  subst hd
  exact wpAnyH_take hi hs hf hr hQ (.inl ⟨hw, hv⟩) hS h
theorem wpAnyH_takeU {i : Nat} {oi : Oper} {fuel : Nat} {listed : Array Bool} {a : Act} {w : World} {d : Option Tmp} (hi : ops[i]? = some oi) (hd : oi.dst = d)
    (hs : Region.noSelect ops = true) (hf : Region.free md ops listed i = true) (hr : (Region.ready md ops listed).contains i = true)
    (hQ : ∀ c a w, Q (.panic c) (a.put d undef) w → Q (.panic c) a w) (hw : Region.wanted oi (yielded ops a.tmps) = false) (hS : S w)
    (h : wpAnyH P md ops Q S fuel (listed.setIfInBounds i true) (a.put d undef) w) : wpAnyH P md ops Q S (fuel + 1) listed a w := by
  subst hd
  exact wpAnyH_take hi hs hf hr hQ (.inr ⟨hw, rfl⟩) hS h
end

set_option maxRecDepth 8000 in
set_option maxHeartbeats 8000000 in
theorem sleeping_walk (A : Option Addr) (c : Nat) (xs : List Int) (w : World) (hx : Rw false .u8 w (fun g => g < w.heap.size) A xs) (hlen : xs.length ≤ 9223372036854775807) (hb : ∀ x ∈ xs, 0 ≤ x ∧ x ≤ 255) :
    Calls Try.prog 11 #[.slice A xs.length c] w fun e w' => e = .returned (.bool true) ∧ Below w.heap.size w w' := by
  by_cases hbig : 1048576 < xs.length
  · have HBG : Hid (bigB xs.length = true) := Lib.hid (by simp [bigB, hbig])
    clear hx hb
    go_enter Try.func11, Try.ntmps11
    go_wp2_with (first | (go_at_call 31; refine (big_any _ _ _ _).mono ?_; rw [HBG.out]; rintro e w' ⟨rfl, rfl⟩))
    go_ret
    exact ⟨rfl, (by repeat (first | (with_reducible exact Below.refl _ _) | (with_reducible refine Below.ext ?_ (by go_size) _ _) | (with_reducible refine Below.alloc ?_ (by go_size) _) | (with_reducible refine Below.setCell ?_ (by go_size) _) | (with_reducible refine Below.drew ?_) | (with_reducible refine Below.drewN_ ?_ _)))⟩
  have HBG : Hid (bigB xs.length = false) := Lib.hid (by simp [bigB, hbig])
  have HX := Lib.hid hx
  have HB := Lib.hid hb
  have ha := atV_le hb 0
  generalize hA : atV xs 0 = a0 at ha
  have HA := Lib.hid hA
  obtain ⟨ha0, ha1⟩ := ha
  have HVB : Hid (vBeac 0 0 0 1 false a0 = true) := Lib.hid (by simp [vBeac, slotB, inR]; omega)
  clear hx hlen hb hA
  go_enter Try.func11, Try.ntmps11
  go_wp2_with (first | (go_at_call 31; refine (big_any _ _ _ _).mono ?_; rw [HBG.out]; rintro e w' ⟨rfl, rfl⟩))
  refine (drawBef_any A c xs _ HX.out (by omega) HB.out).mono ?_
  rintro e w1 ⟨l, a, b, p, gg, rfl, hb1⟩
  obtain ⟨X1, d1, rfl⟩ := Below.ext_ hb1
  clear hb1
  cases hv : vSleep l a b p gg
  · have HN : Hid (sWakes ⟨l, a, b, p, gg⟩ = -1) := Lib.hid (by simp [sWakes, SS.v, hv])
    have HV := Lib.hid hv
    clear hv
    go_wp2_with fail
    refine (wakL HN.out _).mono ?_
    rintro e w' ⟨rfl, hbw⟩; obtain ⟨Xa, da, rfl⟩ := Below.ext_ hbw; clear hbw
    go_wp2_with fail
    refine (valS HV.out _).mono ?_
    rintro e w' ⟨rfl, hbw⟩; obtain ⟨Xb, db, rfl⟩ := Below.ext_ hbw; clear hbw
    generalize hW : World.ext _ _ _ = W0
    have hc_s : W0.cell? ⟨w.heap.size + X1.length, 0, none⟩ = some (.int .i64 l) ∧ W0.cell? ⟨w.heap.size + X1.length, 1, none⟩ = some (.bool a) ∧ W0.cell? ⟨w.heap.size + X1.length, 2, none⟩ = some (.int .i64 b) ∧ W0.cell? ⟨w.heap.size + X1.length, 3, none⟩ = some (.int .i64 p) ∧ W0.cell? ⟨w.heap.size + X1.length, 4, none⟩ = some (.bool gg) := by rw [← hW]; simp [go_sem]
    have hl_s : w.heap.size + X1.length < W0.heap.size := by rw [← hW]; simp; try omega
    have HBW : Hid (Below w.heap.size w W0) := Lib.hid (by rw [← hW]; exact (by repeat (first | (with_reducible exact Below.refl _ _) | (with_reducible refine Below.ext ?_ (by go_size) _ _) | (with_reducible refine Below.alloc ?_ (by go_size) _) | (with_reducible refine Below.setCell ?_ (by go_size) _) | (with_reducible refine Below.drew ?_) | (with_reducible refine Below.drewN_ ?_ _))))
    clear hW
    generalize w.heap.size + X1.length = ks at *
    obtain ⟨cs0, cs1, cs2, cs3, cs4⟩ := hc_s
    have RX : Hid (Rw false .u8 W0 (fun g => g < w.heap.size) A xs) := Lib.hid (HX.out.below HBW.out)
    have hWs := HBW.out.size
    haveI := nz_of hl_s
    have hBe : sBefore ⟨l, a, b, p, gg⟩ = ⟨l, a, b, p, gg⟩ := by have := HV.out; simp [sBefore, SS.v, this]
    have HBe := Lib.hid hBe; clear hBe
    go_wp2
    obtain ⟨W, rfl⟩ : ∃ W : World, W = W0 := ⟨_, rfl⟩
    refine wp_region_held_drew (S := (fun w' => ∀ b o, b < W.heap.size → w'.cell? ⟨b, o, none⟩ = W.cell? ⟨b, o, none⟩)) (by kernel_rfl) ?_ (fun hHeld => ?_)
    · exact fun b o h => Below.cell (p := ⟨b, o, none⟩) (by repeat (first | (with_reducible exact Below.refl _ _) | (with_reducible refine Below.ext ?_ (by go_size) _ _) | (with_reducible refine Below.alloc ?_ (by go_size) _) | (with_reducible refine Below.setCell ?_ (by go_size) _) | (with_reducible refine Below.drew ?_) | (with_reducible refine Below.drewN_ ?_ _))) h
    refine wpAnyH_takeW (i := 0) (d := some 23) (v := ?_) (by simp only [List.getElem?_toArray, List.getElem?_cons_succ, List.getElem?_cons_zero]; rfl) (by rfl) (by kernel_rfl) (by kernel_rfl) (by kernel_rfl) (by intro _ _ _ h; exact h) (by rfl) ?_ (by assumption) ?_
    rotate_left 1
    · (intro w hSw; (try dsimp only at hSw); go_simp; try (with_reducible rfl))
    (try simp only [Act.put, List.setIfInBounds_toArray, List.set_cons_zero, List.set_cons_succ])
    refine wpAnyH_takeW (i := 1) (d := some 24) (v := ?_) (by simp only [List.getElem?_toArray, List.getElem?_cons_succ, List.getElem?_cons_zero]; rfl) (by rfl) (by kernel_rfl) (by kernel_rfl) (by kernel_rfl) (by intro _ _ _ h; exact h) (by rfl) ?_ (by assumption) ?_
    rotate_left 1
    · (intro w hSw; (try dsimp only at hSw); go_simp; try (with_reducible rfl))
    (try simp only [Act.put, List.setIfInBounds_toArray, List.set_cons_zero, List.set_cons_succ])
    refine wpAnyH_takeW (i := 2) (d := some 25) (v := ?_) (by simp only [List.getElem?_toArray, List.getElem?_cons_succ, List.getElem?_cons_zero]; rfl) (by rfl) (by kernel_rfl) (by kernel_rfl) (by kernel_rfl) (by intro _ _ _ h; exact h) (by rfl) ?_ (by assumption) ?_
    rotate_left 1
    · (intro w hSw; (try dsimp only at hSw); go_simp; try (with_reducible rfl))
    (try simp only [Act.put, List.setIfInBounds_toArray, List.set_cons_zero, List.set_cons_succ])
    refine wpAnyH_takeW (i := 3) (d := some 26) (v := ?_) (by simp only [List.getElem?_toArray, List.getElem?_cons_succ, List.getElem?_cons_zero]; rfl) (by rfl) (by kernel_rfl) (by kernel_rfl) (by kernel_rfl) (by intro _ _ _ h; exact h) (by rfl) ?_ (by assumption) ?_
    rotate_left 1
    · (intro w hSw; (try dsimp only at hSw); go_simp; try (with_reducible rfl))
    (try simp only [Act.put, List.setIfInBounds_toArray, List.set_cons_zero, List.set_cons_succ])
    refine wpAnyH_takeW (i := 5) (d := some 28) (v := ?_) (by simp only [List.getElem?_toArray, List.getElem?_cons_succ, List.getElem?_cons_zero]; rfl) (by rfl) (by kernel_rfl) (by kernel_rfl) (by kernel_rfl) (by intro _ _ _ h; exact h) (by rfl) ?_ (by assumption) ?_
    rotate_left 1
    · (intro w hSw; (try dsimp only at hSw); go_simp; try (with_reducible rfl))
    (try simp only [Act.put, List.setIfInBounds_toArray, List.set_cons_zero, List.set_cons_succ])
    refine wpAnyH_ready (rs := [4]) (by kernel_rfl) (by simp) ?_
    refine AllReadyH.cons (i := 4) (by simp only [List.getElem?_toArray, List.getElem?_cons_succ, List.getElem?_cons_zero]; rfl) (fun K hK => ?_) AllReadyH.nil
    go_simp
    (first | (go_at_call 25; refine (befL HBe.out _).mono ?_; rintro e w' ⟨rfl, hbw⟩; obtain ⟨X, d, rfl⟩ := Below.ext_ hbw; clear hbw) | (go_at_call 14; refine (valL HV.out _).mono ?_; rintro e w' ⟨rfl, hbw⟩; obtain ⟨X, d, rfl⟩ := Below.ext_ hbw; clear hbw))
    go_wp2_with fail
    refine hK.out _ _ ?_ (fun hHeld => ?_)
    · ((try dsimp only); exact fun b o h => Below.cell (p := ⟨b, o, none⟩) (by repeat (first | (with_reducible exact Below.refl _ _) | (with_reducible refine Below.ext ?_ (by go_size) _ _) | (with_reducible refine Below.alloc ?_ (by go_size) _) | (with_reducible refine Below.setCell ?_ (by go_size) _) | (with_reducible refine Below.drew ?_) | (with_reducible refine Below.drewN_ ?_ _))) h)
    clear hK K
    (try simp only [Act.put, List.setIfInBounds_toArray, List.set_cons_zero, List.set_cons_succ])
    refine wpAnyH_takeW (i := 6) (d := some 29) (v := ?_) (by simp only [List.getElem?_toArray, List.getElem?_cons_succ, List.getElem?_cons_zero]; rfl) (by rfl) (by kernel_rfl) (by kernel_rfl) (by kernel_rfl) (by intro _ _ _ h; exact h) (by rfl) ?_ (by assumption) ?_
    rotate_left 1
    · (intro w hSw; (try dsimp only at hSw); go_simp; try (with_reducible rfl))
    (try simp only [Act.put, List.setIfInBounds_toArray, List.set_cons_zero, List.set_cons_succ])
    refine wpAnyH_takeW (i := 7) (d := some 30) (v := ?_) (by simp only [List.getElem?_toArray, List.getElem?_cons_succ, List.getElem?_cons_zero]; rfl) (by rfl) (by kernel_rfl) (by kernel_rfl) (by kernel_rfl) (by intro _ _ _ h; exact h) (by rfl) ?_ (by assumption) ?_
    rotate_left 1
    · (intro w hSw; (try dsimp only at hSw); go_simp; try (with_reducible rfl))
    (try simp only [Act.put, List.setIfInBounds_toArray, List.set_cons_zero, List.set_cons_succ])
    refine wpAnyH_takeW (i := 8) (d := some 31) (v := ?_) (by simp only [List.getElem?_toArray, List.getElem?_cons_succ, List.getElem?_cons_zero]; rfl) (by rfl) (by kernel_rfl) (by kernel_rfl) (by kernel_rfl) (by intro _ _ _ h; exact h) (by rfl) ?_ (by assumption) ?_
    rotate_left 1
    · (intro w hSw; (try dsimp only at hSw); go_simp; try (with_reducible rfl))
    (try simp only [Act.put, List.setIfInBounds_toArray, List.set_cons_zero, List.set_cons_succ])
    refine wpAnyH_takeW (i := 9) (d := some 32) (v := ?_) (by simp only [List.getElem?_toArray, List.getElem?_cons_succ, List.getElem?_cons_zero]; rfl) (by rfl) (by kernel_rfl) (by kernel_rfl) (by kernel_rfl) (by intro _ _ _ h; exact h) (by rfl) ?_ (by assumption) ?_
    rotate_left 1
    · (intro w hSw; (try dsimp only at hSw); go_simp; try (with_reducible rfl))
    (try simp only [Act.put, List.setIfInBounds_toArray, List.set_cons_zero, List.set_cons_succ])
    refine wpAnyH_ready (rs := [10]) (by kernel_rfl) (by simp) ?_
    refine AllReadyH.cons (i := 10) (by simp only [List.getElem?_toArray, List.getElem?_cons_succ, List.getElem?_cons_zero]; rfl) (fun K hK => ?_) AllReadyH.nil
    go_simp
    (first | (go_at_call 25; refine (befL HBe.out _).mono ?_; rintro e w' ⟨rfl, hbw⟩; obtain ⟨X, d, rfl⟩ := Below.ext_ hbw; clear hbw) | (go_at_call 14; refine (valL HV.out _).mono ?_; rintro e w' ⟨rfl, hbw⟩; obtain ⟨X, d, rfl⟩ := Below.ext_ hbw; clear hbw))
    go_wp2_with fail
    refine hK.out _ _ ?_ (fun hHeld => ?_)
    · ((try dsimp only); exact fun b o h => Below.cell (p := ⟨b, o, none⟩) (by repeat (first | (with_reducible exact Below.refl _ _) | (with_reducible refine Below.ext ?_ (by go_size) _ _) | (with_reducible refine Below.alloc ?_ (by go_size) _) | (with_reducible refine Below.setCell ?_ (by go_size) _) | (with_reducible refine Below.drew ?_) | (with_reducible refine Below.drewN_ ?_ _))) h)
    clear hK K
    (try simp only [Act.put, List.setIfInBounds_toArray, List.set_cons_zero, List.set_cons_succ])
    refine wpAnyH_takeW (i := 11) (d := some 34) (v := ?_) (by simp only [List.getElem?_toArray, List.getElem?_cons_succ, List.getElem?_cons_zero]; rfl) (by rfl) (by kernel_rfl) (by kernel_rfl) (by kernel_rfl) (by intro _ _ _ h; exact h) (by rfl) ?_ (by assumption) ?_
    rotate_left 1
    · (intro w hSw; (try dsimp only at hSw); go_simp; try (with_reducible rfl))
    (try simp only [Act.put, List.setIfInBounds_toArray, List.set_cons_zero, List.set_cons_succ])
    refine wpAnyH_takeW (i := 12) (d := some 35) (v := ?_) (by simp only [List.getElem?_toArray, List.getElem?_cons_succ, List.getElem?_cons_zero]; rfl) (by rfl) (by kernel_rfl) (by kernel_rfl) (by kernel_rfl) (by intro _ _ _ h; exact h) (by rfl) ?_ (by assumption) ?_
    rotate_left 1
    · (intro w hSw; (try dsimp only at hSw); go_simp; try (with_reducible rfl))
    (try simp only [Act.put, List.setIfInBounds_toArray, List.set_cons_zero, List.set_cons_succ])
    refine wpAnyH_takeW (i := 13) (d := some 2) (v := ?_) (by simp only [List.getElem?_toArray, List.getElem?_cons_succ, List.getElem?_cons_zero]; rfl) (by rfl) (by kernel_rfl) (by kernel_rfl) (by kernel_rfl) (by intro _ _ _ h; exact h) (by rfl) ?_ (by assumption) ?_
    rotate_left 1
    · (intro w hSw; (try dsimp only at hSw); go_simp; try (with_reducible rfl))
    (try simp only [Act.put, List.setIfInBounds_toArray, List.set_cons_zero, List.set_cons_succ])
    refine wpAnyH_done (by kernel_rfl) ?_ _
    go_wp2
    go_ret
    exact ⟨rfl, (by repeat (first | (with_reducible exact HBW.out) | (with_reducible refine Below.ext ?_ (by go_size) _ _) | (with_reducible refine Below.alloc ?_ (by go_size) _) | (with_reducible refine Below.setCell ?_ (by go_size) _) | (with_reducible refine Below.drew ?_) | (with_reducible refine Below.drewN_ ?_ _)))⟩
  · obtain ⟨q1, q2, q3, q4, q5, q6⟩ := vSleep_true hv
    cases a
    · have hpg : p = 0 ∧ gg = false := by
        simp only [vSleep, mustB, Bool.and_eq_true, Bool.false_or, Bool.not_eq_true', Bool.or_eq_false_iff] at hv
        exact ⟨by have := hv.2.1; simp at this; omega, hv.2.2⟩
      obtain ⟨rfl, rfl⟩ := hpg
      obtain ⟨nn, hnn⟩ := Int.eq_ofNat_of_zero_le (show 0 ≤ l - b by omega)
      have HN : Hid (sWakes ⟨l, false, b, 0, false⟩ = (nn : Int)) := Lib.hid (by simp [sWakes, SS.v, hv]; omega)
      have HV := Lib.hid hv
      have hn8 : nn ≤ 8 ∧ 1 ≤ nn := by omega
      obtain ⟨hn8, hn1⟩ := hn8
      have hlb : l ≤ b + (nn : Int) ∧ b + (nn : Int) ≤ l := by omega
      obtain ⟨hlb1, hlb2⟩ := hlb
      clear hv hnn
      cases htc : timB a0 2
      · have HTC := Lib.hid htc
        clear htc
        go_wp2_with fail
        refine (wakL HN.out _).mono ?_
        rintro e w' ⟨rfl, hbw⟩; obtain ⟨Xa, da, rfl⟩ := Below.ext_ hbw; clear hbw
        go_wp2_with fail
        refine (valS HV.out _).mono ?_
        rintro e w' ⟨rfl, hbw⟩; obtain ⟨Xb, db, rfl⟩ := Below.ext_ hbw; clear hbw
        generalize hW : World.ext _ _ _ = W0
        have hc_s : W0.cell? ⟨w.heap.size + X1.length, 0, none⟩ = some (.int .i64 l) ∧ W0.cell? ⟨w.heap.size + X1.length, 1, none⟩ = some (.bool false) ∧ W0.cell? ⟨w.heap.size + X1.length, 2, none⟩ = some (.int .i64 b) ∧ W0.cell? ⟨w.heap.size + X1.length, 3, none⟩ = some (.int .i64 0) ∧ W0.cell? ⟨w.heap.size + X1.length, 4, none⟩ = some (.bool false) := by rw [← hW]; simp [go_sem]
        have hl_s : w.heap.size + X1.length < W0.heap.size := by rw [← hW]; simp; try omega
        have HBW : Hid (Below w.heap.size w W0) := Lib.hid (by rw [← hW]; exact (by repeat (first | (with_reducible exact Below.refl _ _) | (with_reducible refine Below.ext ?_ (by go_size) _ _) | (with_reducible refine Below.alloc ?_ (by go_size) _) | (with_reducible refine Below.setCell ?_ (by go_size) _) | (with_reducible refine Below.drew ?_) | (with_reducible refine Below.drewN_ ?_ _))))
        clear hW
        generalize w.heap.size + X1.length = ks at *
        obtain ⟨cs0, cs1, cs2, cs3, cs4⟩ := hc_s
        have RX : Hid (Rw false .u8 W0 (fun g => g < w.heap.size) A xs) := Lib.hid (HX.out.below HBW.out)
        have hWs := HBW.out.size
        haveI := nz_of hl_s
        go_wp2
        go_loopw [6] (fun v wr => ∃ (k : Nat) (xa : Bool) (xb : Int) (Y : List Obj) (dn : Nat), k ≤ nn ∧ v = .int .i64 (k : Int) ∧ wr = World.ext (W0.alloc (.cells #[.int .i64 l, .bool xa, .int .i64 xb, .int .i64 0, .bool false] 25)) Y dn ∧ Hid ((k < nn → xa = false ∧ xb = b + (k : Int)) ∧ (k = nn → xa = true ∧ xb = 0))) (fun v _ => nn - (intOf v).toNat)
        case atStart => exact ⟨0, false, b, [], W0.drawn, Nat.zero_le _, rfl, by first | (exact (wext_nil _).symm) | rfl, Lib.hid ⟨fun _ => ⟨rfl, by simp⟩, fun h => by omega⟩⟩
        case round =>
          obtain ⟨k, xa, xb, Y, dn, hk, rfl, rfl, hxs⟩ := hrel
          by_cases hlt : k < nn
          · obtain ⟨rfl, rfl⟩ := hxs.out.1 hlt
            have hlt2 : (k : Int) < (nn : Int) := by omega
            have hBe : sBefore ⟨l, false, b + (k : Int), 0, false⟩ = if k + 1 = nn then ⟨l, true, 0, 0, false⟩ else ⟨l, false, b + (k : Int) + 1, 0, false⟩ := by
              have hvk : vSleep l false (b + (k : Int)) 0 false = true := by have := vSleep_true HV.out; simp [vSleep, inR, mustB]; omega
              by_cases h1 : k + 1 = nn
              · rw [if_pos h1]; simp [sBefore, SS.v, hvk]; omega
              · rw [if_neg h1]; simp [sBefore, SS.v, hvk]; omega
            clear hxs
            by_cases h1 : k + 1 = nn
            · rw [if_pos h1] at hBe
              have HBe := Lib.hid hBe; clear hBe
              go_wp2_with (first | (go_at_call 25; refine (befL HBe.out _).mono ?_; rintro e w' ⟨rfl, hbw⟩; obtain ⟨X, d, rfl⟩ := Below.ext_ hbw; clear hbw))
              go_roundw
              case rel => exact ⟨k + 1, true, 0, _, _, by omega, by go_num, by first | (with_reducible rfl) | (simp only [wext_ext]; rfl), Lib.hid ⟨fun h => by omega, fun _ => ⟨rfl, rfl⟩⟩⟩
              case measure => simp [intOf]; omega
            · rw [if_neg h1] at hBe
              have HBe := Lib.hid hBe; clear hBe
              go_wp2_with (first | (go_at_call 25; refine (befL HBe.out _).mono ?_; rintro e w' ⟨rfl, hbw⟩; obtain ⟨X, d, rfl⟩ := Below.ext_ hbw; clear hbw))
              go_roundw
              case rel => exact ⟨k + 1, false, b + (k : Int) + 1, _, _, by omega, by go_num, by first | (with_reducible rfl) | (simp only [wext_ext]; rfl), Lib.hid ⟨fun _ => ⟨rfl, by omega⟩, fun h => by omega⟩⟩
              case measure => simp [intOf]; omega
          · obtain rfl : k = nn := by omega
            obtain ⟨rfl, rfl⟩ := hxs.out.2 rfl
            clear hxs
            have HT : Hid (vSleep l true 0 0 false = true) := Lib.hid (by have := vSleep_true HV.out; simp [vSleep, inR, mustB]; omega)
            have hne : ((k : Int) == 0) = false := by simp; omega
            have hle8 : (k : Int) ≤ 8 := by omega
            have hY : sHear ⟨l, true, 0, 0, false⟩ true false false = ⟨l, false, 0, 0, false⟩ := by have := HT.out; simp [sHear, SS.v, this, mustB]
            have hP : sHearB ⟨l, true, 0, 0, false⟩ true false = false := by have := HT.out; simp [sHearB, SS.v, this]
            have hyv : vSleep l false 0 0 false = true := by have := vSleep_true HT.out; simp [vSleep, inR, mustB]; try omega
            have hZ : sTraffic ⟨l, false, 0, 0, false⟩ true = ⟨l, false, 0, 0, false⟩ := by simp [sTraffic, SS.v, hyv]
            have hM : sTrafficB ⟨l, false, 0, 0, false⟩ true = false := by simp [sTrafficB, SS.v, hyv]
            have hU : sTraffic ⟨l, false, 0, 0, false⟩ false = ⟨l, false, 0, 0, false⟩ := by simp [sTraffic, SS.v, hyv]
            have hL : sTrafficB ⟨l, false, 0, 0, false⟩ false = false := by simp [sTrafficB]
            have HY := Lib.hid hY; clear hY
            have HP := Lib.hid hP; clear hP
            have HYV := Lib.hid hyv; clear hyv
            have HZ := Lib.hid hZ; clear hZ
            have HM := Lib.hid hM; clear hM
            have HU := Lib.hid hU; clear hU
            have HL := Lib.hid hL; clear hL
            go_wp2_with (first | (go_at_call 33; refine (at_any A c xs 0 _ (RX.out.below (by repeat (first | (with_reducible exact Below.refl _ _) | (with_reducible refine Below.ext ?_ (by go_size) _ _) | (with_reducible refine Below.alloc ?_ (by go_size) _) | (with_reducible refine Below.setCell ?_ (by go_size) _) | (with_reducible refine Below.drew ?_) | (with_reducible refine Below.drewN_ ?_ _)))) (by omega) HB.out (by omega)).mono ?_; rw [HA.out]; rintro e w' ⟨rfl, rfl⟩))
            refine (hearL HVB.out HTC.out HY.out HP.out _).mono ?_
            rintro e w' ⟨rfl, hbw⟩; obtain ⟨Xh, dh, rfl⟩ := Below.ext_ hbw; clear hbw
            go_wp2_with fail
            refine (trfL HZ.out HM.out _).mono ?_
            rintro e w' ⟨rfl, hbw⟩; obtain ⟨Xt, dt, rfl⟩ := Below.ext_ hbw; clear hbw
            go_wp2_with fail
            refine (trfL HU.out HL.out _).mono ?_
            rintro e w' ⟨rfl, hbw⟩; obtain ⟨Xu, du, rfl⟩ := Below.ext_ hbw; clear hbw
            have hm5 : sMissed ⟨5, true, 0, 0, false⟩ = ⟨5, false, 4, 0, false⟩ := by rfl
            have hw5 : sWakes ⟨5, false, 4, 0, false⟩ = 1 := by rfl
            have HM5 := Lib.hid hm5; clear hm5
            have HW5 := Lib.hid hw5; clear hw5
            go_wp2_with (first | (go_at_call 14; refine (valL HYV.out _).mono ?_; rintro e w' ⟨rfl, hbw⟩; obtain ⟨X, d, rfl⟩ := Below.ext_ hbw; clear hbw) | (go_at_call 23; refine (misL HM5.out _).mono ?_; rintro e w' ⟨rfl, hbw⟩; obtain ⟨X, d, rfl⟩ := Below.ext_ hbw; clear hbw) | (go_at_call 19; refine (wakL HW5.out _).mono ?_; rintro e w' ⟨rfl, hbw⟩; obtain ⟨X, d, rfl⟩ := Below.ext_ hbw; clear hbw))
            all_goals go_ret
            all_goals exact ⟨rfl, (by repeat (first | (with_reducible exact HBW.out) | (with_reducible refine Below.ext ?_ (by go_size) _ _) | (with_reducible refine Below.alloc ?_ (by go_size) _) | (with_reducible refine Below.setCell ?_ (by go_size) _) | (with_reducible refine Below.drew ?_) | (with_reducible refine Below.drewN_ ?_ _)))⟩
      · have HTC := Lib.hid htc
        clear htc
        go_wp2_with fail
        refine (wakL HN.out _).mono ?_
        rintro e w' ⟨rfl, hbw⟩; obtain ⟨Xa, da, rfl⟩ := Below.ext_ hbw; clear hbw
        go_wp2_with fail
        refine (valS HV.out _).mono ?_
        rintro e w' ⟨rfl, hbw⟩; obtain ⟨Xb, db, rfl⟩ := Below.ext_ hbw; clear hbw
        generalize hW : World.ext _ _ _ = W0
        have hc_s : W0.cell? ⟨w.heap.size + X1.length, 0, none⟩ = some (.int .i64 l) ∧ W0.cell? ⟨w.heap.size + X1.length, 1, none⟩ = some (.bool false) ∧ W0.cell? ⟨w.heap.size + X1.length, 2, none⟩ = some (.int .i64 b) ∧ W0.cell? ⟨w.heap.size + X1.length, 3, none⟩ = some (.int .i64 0) ∧ W0.cell? ⟨w.heap.size + X1.length, 4, none⟩ = some (.bool false) := by rw [← hW]; simp [go_sem]
        have hl_s : w.heap.size + X1.length < W0.heap.size := by rw [← hW]; simp; try omega
        have HBW : Hid (Below w.heap.size w W0) := Lib.hid (by rw [← hW]; exact (by repeat (first | (with_reducible exact Below.refl _ _) | (with_reducible refine Below.ext ?_ (by go_size) _ _) | (with_reducible refine Below.alloc ?_ (by go_size) _) | (with_reducible refine Below.setCell ?_ (by go_size) _) | (with_reducible refine Below.drew ?_) | (with_reducible refine Below.drewN_ ?_ _))))
        clear hW
        generalize w.heap.size + X1.length = ks at *
        obtain ⟨cs0, cs1, cs2, cs3, cs4⟩ := hc_s
        have RX : Hid (Rw false .u8 W0 (fun g => g < w.heap.size) A xs) := Lib.hid (HX.out.below HBW.out)
        have hWs := HBW.out.size
        haveI := nz_of hl_s
        go_wp2
        go_loopw [6] (fun v wr => ∃ (k : Nat) (xa : Bool) (xb : Int) (Y : List Obj) (dn : Nat), k ≤ nn ∧ v = .int .i64 (k : Int) ∧ wr = World.ext (W0.alloc (.cells #[.int .i64 l, .bool xa, .int .i64 xb, .int .i64 0, .bool false] 25)) Y dn ∧ Hid ((k < nn → xa = false ∧ xb = b + (k : Int)) ∧ (k = nn → xa = true ∧ xb = 0))) (fun v _ => nn - (intOf v).toNat)
        case atStart => exact ⟨0, false, b, [], W0.drawn, Nat.zero_le _, rfl, by first | (exact (wext_nil _).symm) | rfl, Lib.hid ⟨fun _ => ⟨rfl, by simp⟩, fun h => by omega⟩⟩
        case round =>
          obtain ⟨k, xa, xb, Y, dn, hk, rfl, rfl, hxs⟩ := hrel
          by_cases hlt : k < nn
          · obtain ⟨rfl, rfl⟩ := hxs.out.1 hlt
            have hlt2 : (k : Int) < (nn : Int) := by omega
            have hBe : sBefore ⟨l, false, b + (k : Int), 0, false⟩ = if k + 1 = nn then ⟨l, true, 0, 0, false⟩ else ⟨l, false, b + (k : Int) + 1, 0, false⟩ := by
              have hvk : vSleep l false (b + (k : Int)) 0 false = true := by have := vSleep_true HV.out; simp [vSleep, inR, mustB]; omega
              by_cases h1 : k + 1 = nn
              · rw [if_pos h1]; simp [sBefore, SS.v, hvk]; omega
              · rw [if_neg h1]; simp [sBefore, SS.v, hvk]; omega
            clear hxs
            by_cases h1 : k + 1 = nn
            · rw [if_pos h1] at hBe
              have HBe := Lib.hid hBe; clear hBe
              go_wp2_with (first | (go_at_call 25; refine (befL HBe.out _).mono ?_; rintro e w' ⟨rfl, hbw⟩; obtain ⟨X, d, rfl⟩ := Below.ext_ hbw; clear hbw))
              go_roundw
              case rel => exact ⟨k + 1, true, 0, _, _, by omega, by go_num, by first | (with_reducible rfl) | (simp only [wext_ext]; rfl), Lib.hid ⟨fun h => by omega, fun _ => ⟨rfl, rfl⟩⟩⟩
              case measure => simp [intOf]; omega
            · rw [if_neg h1] at hBe
              have HBe := Lib.hid hBe; clear hBe
              go_wp2_with (first | (go_at_call 25; refine (befL HBe.out _).mono ?_; rintro e w' ⟨rfl, hbw⟩; obtain ⟨X, d, rfl⟩ := Below.ext_ hbw; clear hbw))
              go_roundw
              case rel => exact ⟨k + 1, false, b + (k : Int) + 1, _, _, by omega, by go_num, by first | (with_reducible rfl) | (simp only [wext_ext]; rfl), Lib.hid ⟨fun _ => ⟨rfl, by omega⟩, fun h => by omega⟩⟩
              case measure => simp [intOf]; omega
          · obtain rfl : k = nn := by omega
            obtain ⟨rfl, rfl⟩ := hxs.out.2 rfl
            clear hxs
            have HT : Hid (vSleep l true 0 0 false = true) := Lib.hid (by have := vSleep_true HV.out; simp [vSleep, inR, mustB]; omega)
            have hne : ((k : Int) == 0) = false := by simp; omega
            have hle8 : (k : Int) ≤ 8 := by omega
            have hY : sHear ⟨l, true, 0, 0, false⟩ true false true = ⟨l, true, 0, 1, false⟩ := by have := HT.out; simp [sHear, SS.v, this, mustB]
            have hP : sHearB ⟨l, true, 0, 0, false⟩ true true = true := by have := HT.out; simp [sHearB, SS.v, this]
            have hyv : vSleep l true 0 1 false = true := by have := vSleep_true HT.out; simp [vSleep, inR, mustB]; try omega
            have hZ : sTraffic ⟨l, true, 0, 1, false⟩ true = ⟨l, true, 0, 1, false⟩ := by simp [sTraffic, SS.v, hyv]
            have hM : sTrafficB ⟨l, true, 0, 1, false⟩ true = true := by simp [sTrafficB, SS.v, hyv]
            have hU : sTraffic ⟨l, true, 0, 1, false⟩ false = ⟨l, false, 0, 0, false⟩ := by simp [sTraffic, SS.v, hyv]
            have hL : sTrafficB ⟨l, true, 0, 1, false⟩ false = false := by simp [sTrafficB]
            have HY := Lib.hid hY; clear hY
            have HP := Lib.hid hP; clear hP
            have HYV := Lib.hid hyv; clear hyv
            have HZ := Lib.hid hZ; clear hZ
            have HM := Lib.hid hM; clear hM
            have HU := Lib.hid hU; clear hU
            have HL := Lib.hid hL; clear hL
            go_wp2_with (first | (go_at_call 33; refine (at_any A c xs 0 _ (RX.out.below (by repeat (first | (with_reducible exact Below.refl _ _) | (with_reducible refine Below.ext ?_ (by go_size) _ _) | (with_reducible refine Below.alloc ?_ (by go_size) _) | (with_reducible refine Below.setCell ?_ (by go_size) _) | (with_reducible refine Below.drew ?_) | (with_reducible refine Below.drewN_ ?_ _)))) (by omega) HB.out (by omega)).mono ?_; rw [HA.out]; rintro e w' ⟨rfl, rfl⟩))
            refine (hearL HVB.out HTC.out HY.out HP.out _).mono ?_
            rintro e w' ⟨rfl, hbw⟩; obtain ⟨Xh, dh, rfl⟩ := Below.ext_ hbw; clear hbw
            go_wp2_with fail
            refine (trfL HZ.out HM.out _).mono ?_
            rintro e w' ⟨rfl, hbw⟩; obtain ⟨Xt, dt, rfl⟩ := Below.ext_ hbw; clear hbw
            go_wp2_with fail
            refine (trfL HU.out HL.out _).mono ?_
            rintro e w' ⟨rfl, hbw⟩; obtain ⟨Xu, du, rfl⟩ := Below.ext_ hbw; clear hbw
            have hm5 : sMissed ⟨5, true, 0, 0, false⟩ = ⟨5, false, 4, 0, false⟩ := by rfl
            have hw5 : sWakes ⟨5, false, 4, 0, false⟩ = 1 := by rfl
            have HM5 := Lib.hid hm5; clear hm5
            have HW5 := Lib.hid hw5; clear hw5
            go_wp2_with (first | (go_at_call 14; refine (valL HYV.out _).mono ?_; rintro e w' ⟨rfl, hbw⟩; obtain ⟨X, d, rfl⟩ := Below.ext_ hbw; clear hbw) | (go_at_call 23; refine (misL HM5.out _).mono ?_; rintro e w' ⟨rfl, hbw⟩; obtain ⟨X, d, rfl⟩ := Below.ext_ hbw; clear hbw) | (go_at_call 19; refine (wakL HW5.out _).mono ?_; rintro e w' ⟨rfl, hbw⟩; obtain ⟨X, d, rfl⟩ := Below.ext_ hbw; clear hbw) | (go_at_call 34; refine (timL HTC.out _).mono ?_; rintro e w' ⟨rfl, hbw⟩; obtain ⟨X, d, rfl⟩ := Below.ext_ hbw; clear hbw))
            all_goals go_ret
            all_goals exact ⟨rfl, (by repeat (first | (with_reducible exact HBW.out) | (with_reducible refine Below.ext ?_ (by go_size) _ _) | (with_reducible refine Below.alloc ?_ (by go_size) _) | (with_reducible refine Below.setCell ?_ (by go_size) _) | (with_reducible refine Below.drew ?_) | (with_reducible refine Below.drewN_ ?_ _)))⟩
    · have HN : Hid (sWakes ⟨l, true, b, p, gg⟩ = 0) := Lib.hid (by simp [sWakes, SS.v, hv])
      have HV := Lib.hid hv
      clear hv
      by_cases hp : p = 0
      · subst hp
        cases htc : timB a0 2
        · have HTC := Lib.hid htc
          clear htc
          have HT := HV
          go_wp2_with fail
          refine (wakL HN.out _).mono ?_
          rintro e w' ⟨rfl, hbw⟩; obtain ⟨Xa, da, rfl⟩ := Below.ext_ hbw; clear hbw
          go_wp2_with fail
          refine (valS HV.out _).mono ?_
          rintro e w' ⟨rfl, hbw⟩; obtain ⟨Xb, db, rfl⟩ := Below.ext_ hbw; clear hbw
          generalize hW : World.ext _ _ _ = W0
          have hc_s : W0.cell? ⟨w.heap.size + X1.length, 0, none⟩ = some (.int .i64 l) ∧ W0.cell? ⟨w.heap.size + X1.length, 1, none⟩ = some (.bool true) ∧ W0.cell? ⟨w.heap.size + X1.length, 2, none⟩ = some (.int .i64 b) ∧ W0.cell? ⟨w.heap.size + X1.length, 3, none⟩ = some (.int .i64 0) ∧ W0.cell? ⟨w.heap.size + X1.length, 4, none⟩ = some (.bool gg) := by rw [← hW]; simp [go_sem]
          have hl_s : w.heap.size + X1.length < W0.heap.size := by rw [← hW]; simp; try omega
          have HBW : Hid (Below w.heap.size w W0) := Lib.hid (by rw [← hW]; exact (by repeat (first | (with_reducible exact Below.refl _ _) | (with_reducible refine Below.ext ?_ (by go_size) _ _) | (with_reducible refine Below.alloc ?_ (by go_size) _) | (with_reducible refine Below.setCell ?_ (by go_size) _) | (with_reducible refine Below.drew ?_) | (with_reducible refine Below.drewN_ ?_ _))))
          clear hW
          generalize w.heap.size + X1.length = ks at *
          obtain ⟨cs0, cs1, cs2, cs3, cs4⟩ := hc_s
          have RX : Hid (Rw false .u8 W0 (fun g => g < w.heap.size) A xs) := Lib.hid (HX.out.below HBW.out)
          have hWs := HBW.out.size
          haveI := nz_of hl_s
          go_wp2
          refine wp_loop_rounds 1 ?_
          rw [rounds_succ]
          have hY : sHear ⟨l, true, b, 0, gg⟩ true false false = ⟨l, false, b, 0, false⟩ := by have := HT.out; simp [sHear, SS.v, this, mustB]
          have hP : sHearB ⟨l, true, b, 0, gg⟩ true false = false := by have := HT.out; simp [sHearB, SS.v, this]
          have hyv : vSleep l false b 0 false = true := by have := vSleep_true HT.out; simp [vSleep, inR, mustB]; try omega
          have hZ : sTraffic ⟨l, false, b, 0, false⟩ true = ⟨l, false, b, 0, false⟩ := by simp [sTraffic, SS.v, hyv]
          have hM : sTrafficB ⟨l, false, b, 0, false⟩ true = false := by simp [sTrafficB, SS.v, hyv]
          have hU : sTraffic ⟨l, false, b, 0, false⟩ false = ⟨l, false, b, 0, false⟩ := by simp [sTraffic, SS.v, hyv]
          have hL : sTrafficB ⟨l, false, b, 0, false⟩ false = false := by simp [sTrafficB]
          have HY := Lib.hid hY; clear hY
          have HP := Lib.hid hP; clear hP
          have HYV := Lib.hid hyv; clear hyv
          have HZ := Lib.hid hZ; clear hZ
          have HM := Lib.hid hM; clear hM
          have HU := Lib.hid hU; clear hU
          have HL := Lib.hid hL; clear hL
          go_wp2_with (first | (go_at_call 33; refine (at_any A c xs 0 _ (RX.out.below (by repeat (first | (with_reducible exact Below.refl _ _) | (with_reducible refine Below.ext ?_ (by go_size) _ _) | (with_reducible refine Below.alloc ?_ (by go_size) _) | (with_reducible refine Below.setCell ?_ (by go_size) _) | (with_reducible refine Below.drew ?_) | (with_reducible refine Below.drewN_ ?_ _)))) (by omega) HB.out (by omega)).mono ?_; rw [HA.out]; rintro e w' ⟨rfl, rfl⟩))
          refine (hearL HVB.out HTC.out HY.out HP.out _).mono ?_
          rintro e w' ⟨rfl, hbw⟩; obtain ⟨Xh, dh, rfl⟩ := Below.ext_ hbw; clear hbw
          go_wp2_with fail
          refine (trfL HZ.out HM.out _).mono ?_
          rintro e w' ⟨rfl, hbw⟩; obtain ⟨Xt, dt, rfl⟩ := Below.ext_ hbw; clear hbw
          go_wp2_with fail
          refine (trfL HU.out HL.out _).mono ?_
          rintro e w' ⟨rfl, hbw⟩; obtain ⟨Xu, du, rfl⟩ := Below.ext_ hbw; clear hbw
          have hm5 : sMissed ⟨5, true, 0, 0, false⟩ = ⟨5, false, 4, 0, false⟩ := by rfl
          have hw5 : sWakes ⟨5, false, 4, 0, false⟩ = 1 := by rfl
          have HM5 := Lib.hid hm5; clear hm5
          have HW5 := Lib.hid hw5; clear hw5
          go_wp2_with (first | (go_at_call 14; refine (valL HYV.out _).mono ?_; rintro e w' ⟨rfl, hbw⟩; obtain ⟨X, d, rfl⟩ := Below.ext_ hbw; clear hbw) | (go_at_call 23; refine (misL HM5.out _).mono ?_; rintro e w' ⟨rfl, hbw⟩; obtain ⟨X, d, rfl⟩ := Below.ext_ hbw; clear hbw) | (go_at_call 19; refine (wakL HW5.out _).mono ?_; rintro e w' ⟨rfl, hbw⟩; obtain ⟨X, d, rfl⟩ := Below.ext_ hbw; clear hbw))
          all_goals go_ret
          all_goals exact ⟨rfl, (by repeat (first | (with_reducible exact HBW.out) | (with_reducible refine Below.ext ?_ (by go_size) _ _) | (with_reducible refine Below.alloc ?_ (by go_size) _) | (with_reducible refine Below.setCell ?_ (by go_size) _) | (with_reducible refine Below.drew ?_) | (with_reducible refine Below.drewN_ ?_ _)))⟩
        · have HTC := Lib.hid htc
          clear htc
          have HT := HV
          go_wp2_with fail
          refine (wakL HN.out _).mono ?_
          rintro e w' ⟨rfl, hbw⟩; obtain ⟨Xa, da, rfl⟩ := Below.ext_ hbw; clear hbw
          go_wp2_with fail
          refine (valS HV.out _).mono ?_
          rintro e w' ⟨rfl, hbw⟩; obtain ⟨Xb, db, rfl⟩ := Below.ext_ hbw; clear hbw
          generalize hW : World.ext _ _ _ = W0
          have hc_s : W0.cell? ⟨w.heap.size + X1.length, 0, none⟩ = some (.int .i64 l) ∧ W0.cell? ⟨w.heap.size + X1.length, 1, none⟩ = some (.bool true) ∧ W0.cell? ⟨w.heap.size + X1.length, 2, none⟩ = some (.int .i64 b) ∧ W0.cell? ⟨w.heap.size + X1.length, 3, none⟩ = some (.int .i64 0) ∧ W0.cell? ⟨w.heap.size + X1.length, 4, none⟩ = some (.bool gg) := by rw [← hW]; simp [go_sem]
          have hl_s : w.heap.size + X1.length < W0.heap.size := by rw [← hW]; simp; try omega
          have HBW : Hid (Below w.heap.size w W0) := Lib.hid (by rw [← hW]; exact (by repeat (first | (with_reducible exact Below.refl _ _) | (with_reducible refine Below.ext ?_ (by go_size) _ _) | (with_reducible refine Below.alloc ?_ (by go_size) _) | (with_reducible refine Below.setCell ?_ (by go_size) _) | (with_reducible refine Below.drew ?_) | (with_reducible refine Below.drewN_ ?_ _))))
          clear hW
          generalize w.heap.size + X1.length = ks at *
          obtain ⟨cs0, cs1, cs2, cs3, cs4⟩ := hc_s
          have RX : Hid (Rw false .u8 W0 (fun g => g < w.heap.size) A xs) := Lib.hid (HX.out.below HBW.out)
          have hWs := HBW.out.size
          haveI := nz_of hl_s
          go_wp2
          refine wp_loop_rounds 1 ?_
          rw [rounds_succ]
          have hY : sHear ⟨l, true, b, 0, gg⟩ true false true = ⟨l, true, b, 1, false⟩ := by have := HT.out; simp [sHear, SS.v, this, mustB]
          have hP : sHearB ⟨l, true, b, 0, gg⟩ true true = true := by have := HT.out; simp [sHearB, SS.v, this]
          have hyv : vSleep l true b 1 false = true := by have := vSleep_true HT.out; simp [vSleep, inR, mustB]; try omega
          have hZ : sTraffic ⟨l, true, b, 1, false⟩ true = ⟨l, true, b, 1, false⟩ := by simp [sTraffic, SS.v, hyv]
          have hM : sTrafficB ⟨l, true, b, 1, false⟩ true = true := by simp [sTrafficB, SS.v, hyv]
          have hU : sTraffic ⟨l, true, b, 1, false⟩ false = ⟨l, false, b, 0, false⟩ := by simp [sTraffic, SS.v, hyv]
          have hL : sTrafficB ⟨l, true, b, 1, false⟩ false = false := by simp [sTrafficB]
          have HY := Lib.hid hY; clear hY
          have HP := Lib.hid hP; clear hP
          have HYV := Lib.hid hyv; clear hyv
          have HZ := Lib.hid hZ; clear hZ
          have HM := Lib.hid hM; clear hM
          have HU := Lib.hid hU; clear hU
          have HL := Lib.hid hL; clear hL
          go_wp2_with (first | (go_at_call 33; refine (at_any A c xs 0 _ (RX.out.below (by repeat (first | (with_reducible exact Below.refl _ _) | (with_reducible refine Below.ext ?_ (by go_size) _ _) | (with_reducible refine Below.alloc ?_ (by go_size) _) | (with_reducible refine Below.setCell ?_ (by go_size) _) | (with_reducible refine Below.drew ?_) | (with_reducible refine Below.drewN_ ?_ _)))) (by omega) HB.out (by omega)).mono ?_; rw [HA.out]; rintro e w' ⟨rfl, rfl⟩))
          refine (hearL HVB.out HTC.out HY.out HP.out _).mono ?_
          rintro e w' ⟨rfl, hbw⟩; obtain ⟨Xh, dh, rfl⟩ := Below.ext_ hbw; clear hbw
          go_wp2_with fail
          refine (trfL HZ.out HM.out _).mono ?_
          rintro e w' ⟨rfl, hbw⟩; obtain ⟨Xt, dt, rfl⟩ := Below.ext_ hbw; clear hbw
          go_wp2_with fail
          refine (trfL HU.out HL.out _).mono ?_
          rintro e w' ⟨rfl, hbw⟩; obtain ⟨Xu, du, rfl⟩ := Below.ext_ hbw; clear hbw
          have hm5 : sMissed ⟨5, true, 0, 0, false⟩ = ⟨5, false, 4, 0, false⟩ := by rfl
          have hw5 : sWakes ⟨5, false, 4, 0, false⟩ = 1 := by rfl
          have HM5 := Lib.hid hm5; clear hm5
          have HW5 := Lib.hid hw5; clear hw5
          go_wp2_with (first | (go_at_call 14; refine (valL HYV.out _).mono ?_; rintro e w' ⟨rfl, hbw⟩; obtain ⟨X, d, rfl⟩ := Below.ext_ hbw; clear hbw) | (go_at_call 23; refine (misL HM5.out _).mono ?_; rintro e w' ⟨rfl, hbw⟩; obtain ⟨X, d, rfl⟩ := Below.ext_ hbw; clear hbw) | (go_at_call 19; refine (wakL HW5.out _).mono ?_; rintro e w' ⟨rfl, hbw⟩; obtain ⟨X, d, rfl⟩ := Below.ext_ hbw; clear hbw) | (go_at_call 34; refine (timL HTC.out _).mono ?_; rintro e w' ⟨rfl, hbw⟩; obtain ⟨X, d, rfl⟩ := Below.ext_ hbw; clear hbw))
          all_goals go_ret
          all_goals exact ⟨rfl, (by repeat (first | (with_reducible exact HBW.out) | (with_reducible refine Below.ext ?_ (by go_size) _ _) | (with_reducible refine Below.alloc ?_ (by go_size) _) | (with_reducible refine Below.setCell ?_ (by go_size) _) | (with_reducible refine Below.drew ?_) | (with_reducible refine Below.drewN_ ?_ _)))⟩
      · obtain rfl : p = 1 := by omega
        generalize htc : timB a0 2 = q
        have HTC := Lib.hid htc
        clear htc
        have HT := HV
        go_wp2_with fail
        refine (wakL HN.out _).mono ?_
        rintro e w' ⟨rfl, hbw⟩; obtain ⟨Xa, da, rfl⟩ := Below.ext_ hbw; clear hbw
        go_wp2_with fail
        refine (valS HV.out _).mono ?_
        rintro e w' ⟨rfl, hbw⟩; obtain ⟨Xb, db, rfl⟩ := Below.ext_ hbw; clear hbw
        generalize hW : World.ext _ _ _ = W0
        have hc_s : W0.cell? ⟨w.heap.size + X1.length, 0, none⟩ = some (.int .i64 l) ∧ W0.cell? ⟨w.heap.size + X1.length, 1, none⟩ = some (.bool true) ∧ W0.cell? ⟨w.heap.size + X1.length, 2, none⟩ = some (.int .i64 b) ∧ W0.cell? ⟨w.heap.size + X1.length, 3, none⟩ = some (.int .i64 1) ∧ W0.cell? ⟨w.heap.size + X1.length, 4, none⟩ = some (.bool gg) := by rw [← hW]; simp [go_sem]
        have hl_s : w.heap.size + X1.length < W0.heap.size := by rw [← hW]; simp; try omega
        have HBW : Hid (Below w.heap.size w W0) := Lib.hid (by rw [← hW]; exact (by repeat (first | (with_reducible exact Below.refl _ _) | (with_reducible refine Below.ext ?_ (by go_size) _ _) | (with_reducible refine Below.alloc ?_ (by go_size) _) | (with_reducible refine Below.setCell ?_ (by go_size) _) | (with_reducible refine Below.drew ?_) | (with_reducible refine Below.drewN_ ?_ _))))
        clear hW
        generalize w.heap.size + X1.length = ks at *
        obtain ⟨cs0, cs1, cs2, cs3, cs4⟩ := hc_s
        have RX : Hid (Rw false .u8 W0 (fun g => g < w.heap.size) A xs) := Lib.hid (HX.out.below HBW.out)
        have hWs := HBW.out.size
        haveI := nz_of hl_s
        go_wp2
        refine wp_loop_rounds 1 ?_
        rw [rounds_succ]
        have hY : sHear ⟨l, true, b, 1, gg⟩ true false q = ⟨l, true, b, 1, false⟩ := by have := HT.out; simp [sHear, SS.v, this, mustB]
        have hP : sHearB ⟨l, true, b, 1, gg⟩ true q = false := by have := HT.out; simp [sHearB, SS.v, this]
        have hyv : vSleep l true b 1 false = true := by have := vSleep_true HT.out; simp [vSleep, inR, mustB]; try omega
        have hZ : sTraffic ⟨l, true, b, 1, false⟩ true = ⟨l, true, b, 1, false⟩ := by simp [sTraffic, SS.v, hyv]
        have hM : sTrafficB ⟨l, true, b, 1, false⟩ true = true := by simp [sTrafficB, SS.v, hyv]
        have hU : sTraffic ⟨l, true, b, 1, false⟩ false = ⟨l, false, b, 0, false⟩ := by simp [sTraffic, SS.v, hyv]
        have hL : sTrafficB ⟨l, true, b, 1, false⟩ false = false := by simp [sTrafficB]
        have HY := Lib.hid hY; clear hY
        have HP := Lib.hid hP; clear hP
        have HYV := Lib.hid hyv; clear hyv
        have HZ := Lib.hid hZ; clear hZ
        have HM := Lib.hid hM; clear hM
        have HU := Lib.hid hU; clear hU
        have HL := Lib.hid hL; clear hL
        go_wp2_with (first | (go_at_call 33; refine (at_any A c xs 0 _ (RX.out.below (by repeat (first | (with_reducible exact Below.refl _ _) | (with_reducible refine Below.ext ?_ (by go_size) _ _) | (with_reducible refine Below.alloc ?_ (by go_size) _) | (with_reducible refine Below.setCell ?_ (by go_size) _) | (with_reducible refine Below.drew ?_) | (with_reducible refine Below.drewN_ ?_ _)))) (by omega) HB.out (by omega)).mono ?_; rw [HA.out]; rintro e w' ⟨rfl, rfl⟩))
        refine (hearL HVB.out HTC.out HY.out HP.out _).mono ?_
        rintro e w' ⟨rfl, hbw⟩; obtain ⟨Xh, dh, rfl⟩ := Below.ext_ hbw; clear hbw
        go_wp2_with fail
        refine (trfL HZ.out HM.out _).mono ?_
        rintro e w' ⟨rfl, hbw⟩; obtain ⟨Xt, dt, rfl⟩ := Below.ext_ hbw; clear hbw
        go_wp2_with fail
        refine (trfL HU.out HL.out _).mono ?_
        rintro e w' ⟨rfl, hbw⟩; obtain ⟨Xu, du, rfl⟩ := Below.ext_ hbw; clear hbw
        have hm5 : sMissed ⟨5, true, 0, 0, false⟩ = ⟨5, false, 4, 0, false⟩ := by rfl
        have hw5 : sWakes ⟨5, false, 4, 0, false⟩ = 1 := by rfl
        have HM5 := Lib.hid hm5; clear hm5
        have HW5 := Lib.hid hw5; clear hw5
        go_wp2_with (first | (go_at_call 14; refine (valL HYV.out _).mono ?_; rintro e w' ⟨rfl, hbw⟩; obtain ⟨X, d, rfl⟩ := Below.ext_ hbw; clear hbw) | (go_at_call 23; refine (misL HM5.out _).mono ?_; rintro e w' ⟨rfl, hbw⟩; obtain ⟨X, d, rfl⟩ := Below.ext_ hbw; clear hbw) | (go_at_call 19; refine (wakL HW5.out _).mono ?_; rintro e w' ⟨rfl, hbw⟩; obtain ⟨X, d, rfl⟩ := Below.ext_ hbw; clear hbw))
        all_goals go_ret
        all_goals exact ⟨rfl, (by repeat (first | (with_reducible exact HBW.out) | (with_reducible refine Below.ext ?_ (by go_size) _ _) | (with_reducible refine Below.alloc ?_ (by go_size) _) | (with_reducible refine Below.setCell ?_ (by go_size) _) | (with_reducible refine Below.drew ?_) | (with_reducible refine Below.drewN_ ?_ _)))⟩

end Go.Proofs.Ytncnlhmakigpgaa
