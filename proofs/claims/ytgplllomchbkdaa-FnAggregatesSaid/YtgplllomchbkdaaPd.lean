/- ParseDelimiter of the program and of the reference. -/
import Derived.Test.YtgplllomchbkdaaDlm
import Derived.Test.YtgplllomchbkdaaEqB
import Derived.Lib.SlBytesRow
import Derived.Test.YtgplllomchbkdaaHeld
import Derived.IntWalk
namespace Go.Proofs.Ytgplllomchbkdaa
open Go.RowKit
set_option linter.unusedVariables false
set_option linter.unusedSimpArgs false

def hdr (xs : List Int) (k : Nat) : Int := xs.getD k 0 + 256 * xs.getD (k + 1) 0
def pdN (xs : List Int) (k : Nat) : Int × Bool := if k + 4 ≤ xs.length ∧ dlm (hdr xs k) = (xs.drop k).take 4 then (hdr xs k, true) else (0, false)
def pd (xs : List Int) (off : Int) : Int × Bool := if 0 ≤ off then pdN xs off.toNat else (0, false)
theorem ret_pd {p : Int × Bool} {a : Int} {b : Bool} (h : p = (a, b)) : Ending.returned (.tuple #[.int .i64 a, .bool b]) = .returned (.tuple #[.int .i64 p.1, .bool p.2]) := by rw [h]
theorem sub_row {u : Bool} {w : World} {T : Nat → Prop} {g o k m : Nat} {xs : List Int} (h : Rw u .u8 w T (some ⟨g, o, none⟩) xs) : Rw u .u8 w T (some ⟨g, o + k, none⟩) ((xs.drop k).take m) := by
  intro j hj
  simp only [List.length_take, List.length_drop] at hj
  obtain ⟨g', o', h1, h2, h3, h4, h5⟩ := h (k + j) (by omega)
  injection h1 with h1
  injection h1 with e1 e2
  subst e1 e2
  refine ⟨g, o + k, rfl, h2, h3, ?_, fun hu => by rw [Nat.add_assoc]; exact h5 hu⟩
  rw [Nat.add_assoc, h4, List.getElem_take, List.getElem_drop]
theorem sz1 : ∀ w, (Go.sizeOf 5).run Try.prog w = .ok 1 w := fun _ => by kernel_rfl
theorem or_hdr (a b : Nat) (ha : a ≤ 255) (hb : b ≤ 255) : bits .or .i64 (a : Int) ((b : Int) * 256) = (a : Int) + 256 * (b : Int) := by
  have h1 : ((b : Int) * 256) = ((b * 256 : Nat) : Int) := by omega
  rw [h1, i64_or_nat a _ (by omega) (by omega)]
  have h2 : b <<< 8 + a = b <<< 8 ||| a := Nat.shiftLeft_add_eq_or_of_lt (by omega) b
  rw [Nat.shiftLeft_eq] at h2
  rw [Nat.or_comm, ← h2]
  omega


set_option maxHeartbeats 4000000 in
theorem implPd_any {u : Bool} {T : Nat → Prop} (A : Option Addr) (c : Nat) (xs : List Int) (off : Int) (w : World) (hx : Rw u .u8 w T A xs) (hm : xs.length ≤ 1000000000000) (hc : xs.length ≤ c) (hb : ∀ x ∈ xs, 0 ≤ x ∧ x ≤ 255) (ho : I64 off) :
    Calls Try.prog 10 #[.slice A xs.length c, .int .i64 off] w fun e w' => e = .returned (.tuple #[.int .i64 (pd xs off).1, .bool (pd xs off).2]) ∧ Below w.heap.size w w' := by
  obtain ⟨ho0, ho1⟩ := ho
  by_cases hin : 0 ≤ off ∧ off ≤ (xs.length : Int) - 4
  · obtain ⟨h0, h1⟩ := hin
    obtain ⟨k, rfl⟩ := Int.eq_ofNat_of_zero_le h0
    have hk : k + 4 ≤ xs.length := by omega
    have hR : inR (k : Int) 0 ((xs.length : Int) - 4) = true := inR_of ⟨h0, h1⟩
    obtain ⟨g, o, rfl, _, hg, hc0, _⟩ := hx k (by omega)
    obtain ⟨g', o', hA, _, _, hc1, _⟩ := hx (k + 1) (by omega)
    injection hA with hA
    injection hA with e1 e2
    subst e1 e2
    have b0 := hb xs[k] (List.getElem_mem _)
    have b1 := hb xs[k + 1] (List.getElem_mem _)
    have hhd : hdr xs k = xs[k] + 256 * xs[k + 1] := by
      have hk1 : k < xs.length := by omega
      have hk2 : k + 1 < xs.length := by omega
      simp [hdr, List.getD, List.getElem?_eq_getElem hk1, List.getElem?_eq_getElem hk2]
    have hp : pd xs (k : Int) = if dlm (hdr xs k) = (xs.drop k).take 4 then (hdr xs k, true) else (0, false) := by
      rw [pd, if_pos (by omega)]
      show pdN xs k = _
      unfold pdN
      by_cases hd : dlm (hdr xs k) = (xs.drop k).take 4
      · rw [if_pos hd, if_pos ⟨hk, hd⟩]
      · rw [if_neg hd, if_neg (fun h => hd h.2)]
    have RY : Hid (Rw u .u8 w T (some ⟨g, o + k, none⟩) ((xs.drop k).take 4)) := Lib.hid (sub_row hx)
    have HYB : Hid (∀ y ∈ (xs.drop k).take 4, 0 ≤ y ∧ y ≤ 255) := Lib.hid (fun y hy => hb y (List.mem_of_mem_drop (List.mem_of_mem_take hy)))
    have hyl : ((xs.drop k).take 4).length = 4 := by simp; omega
    have hsl : ∀ W : World, (Instr.slice 22 (.slice (some ⟨g, o, none⟩) xs.length c) (some (.int .i64 (k : Int))) (some (.int .i64 ((k : Int) + 4))) none).run Try.prog W =   .ok (.slice (some ⟨g, o + k, none⟩) ((xs.drop k).take 4).length (c - k)) W := by
      intro W
      rw [hyl]
      have := Lib.run_slice_window (P := Try.prog) W 22 5 Try.underlying22 sz1 g o xs.length c k (k + 4) (by omega) (by omega)
      rw [show k + 4 - k = 4 by omega] at this
      exact this
    generalize hys : (xs.drop k).take 4 = ys at *
    have HYL := Lib.hid hyl
    have hyl2 : ys.length ≤ 4 := by omega
    clear hyl
    rw [hhd] at hp
    have hdl := dlm_len (xs[k] + 256 * xs[k + 1])
    generalize xs[k] = x0 at *
    generalize xs[k + 1] = x1 at *
    obtain ⟨b00, b01⟩ := b0
    obtain ⟨b10, b11⟩ := b1
    obtain ⟨a0, rfl⟩ := Int.eq_ofNat_of_zero_le b00
    obtain ⟨a1, rfl⟩ := Int.eq_ofNat_of_zero_le b10
    have i1 : IntKind.i64.wrap ((k : Int) + 1) = (k : Int) + 1 := by rw [IntKind.wrap_i64]; omega
    have i2 : 0 ≤ (k : Int) + 1 := by omega
    have i3 : ((k : Int) + 1).toNat = k + 1 := by omega
    have i4 : IntKind.i64.wrap ((k : Int) + 4) = (k : Int) + 4 := by rw [IntKind.wrap_i64]; omega
    have i5 : (k : Int) + 1 < (xs.length : Int) := by omega
    have i6 : (k : Int) < (xs.length : Int) := by omega
    have i7 : IntKind.i64.wrap (256 * (a1 : Int)) = 256 * (a1 : Int) := by rw [IntKind.wrap_i64]; omega
    have i8 : IntKind.i64.wrap ((a0 : Int) + 256 * (a1 : Int)) = (a0 : Int) + 256 * (a1 : Int) := by rw [IntKind.wrap_i64]; omega
    have i9 : (xs.length : Int) - 4 ≥ (k : Int) := by omega
    
    have HC1 : Hid (w.cell? ⟨g, o + (k + 1), none⟩ = some (.int .u8 (a1 : Int))) := Lib.hid hc1
    have hc1b : w.cell? ⟨g, o + (k + 1), none⟩ = some (.int .u8 (a1 : Int)) := hc1
    clear hc1 HC1 hx hb hhd hys h0 ho0 ho1
    have HP := Lib.hid hp
    clear hp
    cases hq : (dlm ((a0 : Int) + 256 * (a1 : Int)) == ys)
    · have HV : Hid (pd xs (k : Int) = (0, false)) := Lib.hid (by rw [HP.out, if_neg (by simpa using hq)])
      have HQ := Lib.hid hq
      clear hq HP
      go_enter Try.func10, Try.ntmps10
      go_wp2_with (first | (go_at_call 34; refine (inRange_any _ _ _ _).mono ?_; rintro e w' ⟨rfl, rfl⟩))
      go_quiet (fail)
      go_wp2
      generalize hn : (a0 : Int) + 256 * (a1 : Int) = n at *
      have HN := Lib.hid hn
      clear hn
      refine wp_region_held_drew (S := (fun w' => True)) (by kernel_rfl) ?_ (fun hHeld => ?_)
      · try exact trivial
      refine wpAnyH_takeW (i := 0) (d := some 26) (v := ?_) (by simp only [List.getElem?_toArray, List.getElem?_cons_succ, List.getElem?_cons_zero]; rfl) (by rfl) (by kernel_rfl) (by kernel_rfl) (by kernel_rfl) (by intro _ _ _ h; exact h) (by rfl) ?_ (by assumption) ?_
      rotate_left 1
      · (intro w hSw; (try dsimp only at hSw); go_simp; try (with_reducible rfl))
      (try simp only [Act.put, List.setIfInBounds_toArray, List.set_cons_zero, List.set_cons_succ])
      refine wpAnyH_takeW (i := 2) (d := some 28) (v := ?_) (by simp only [List.getElem?_toArray, List.getElem?_cons_succ, List.getElem?_cons_zero]; rfl) (by rfl) (by kernel_rfl) (by kernel_rfl) (by kernel_rfl) (by intro _ _ _ h; exact h) (by rfl) ?_ (by assumption) ?_
      rotate_left 1
      · (intro w hSw; (try dsimp only at hSw); go_simp; try (with_reducible rfl))
      (try simp only [Act.put, List.setIfInBounds_toArray, List.set_cons_zero, List.set_cons_succ])
      refine wpAnyH_takeW (i := 3) (d := some 29) (v := ?_) (by simp only [List.getElem?_toArray, List.getElem?_cons_succ, List.getElem?_cons_zero]; rfl) (by rfl) (by kernel_rfl) (by kernel_rfl) (by kernel_rfl) (by intro _ _ _ h; exact h) (by rfl) ?_ (by assumption) ?_
      rotate_left 1
      · (intro w hSw; (try dsimp only at hSw); go_simp; try (with_reducible rfl))
      (try simp only [Act.put, List.setIfInBounds_toArray, List.set_cons_zero, List.set_cons_succ])
      refine wpAnyH_takeW (i := 4) (d := some 30) (v := ?_) (by simp only [List.getElem?_toArray, List.getElem?_cons_succ, List.getElem?_cons_zero]; rfl) (by rfl) (by kernel_rfl) (by kernel_rfl) (by kernel_rfl) (by intro _ _ _ h; exact h) (by rfl) ?_ (by assumption) ?_
      rotate_left 1
      · (intro w hSw; (try dsimp only at hSw); go_simp; try (with_reducible rfl))
      (try simp only [Act.put, List.setIfInBounds_toArray, List.set_cons_zero, List.set_cons_succ])
      refine wpAnyH_takeW (i := 5) (d := some 31) (v := ?_) (by simp only [List.getElem?_toArray, List.getElem?_cons_succ, List.getElem?_cons_zero]; rfl) (by rfl) (by kernel_rfl) (by kernel_rfl) (by kernel_rfl) (by intro _ _ _ h; exact h) (by rfl) ?_ (by assumption) ?_
      rotate_left 1
      · (intro w hSw; (try dsimp only at hSw); go_simp; try (with_reducible rfl))
      (try simp only [Act.put, List.setIfInBounds_toArray, List.set_cons_zero, List.set_cons_succ])
      refine wpAnyH_takeW (i := 6) (d := some 32) (v := ?_) (by simp only [List.getElem?_toArray, List.getElem?_cons_succ, List.getElem?_cons_zero]; rfl) (by rfl) (by kernel_rfl) (by kernel_rfl) (by kernel_rfl) (by intro _ _ _ h; exact h) (by rfl) ?_ (by assumption) ?_
      rotate_left 1
      · (intro w hSw; (try dsimp only at hSw); go_simp; try (with_reducible rfl))
      (try simp only [Act.put, List.setIfInBounds_toArray, List.set_cons_zero, List.set_cons_succ])
      refine wpAnyH_ready (rs := [1]) (by kernel_rfl) (by simp) ?_
      refine AllReadyH.cons (i := 1) (by simp only [List.getElem?_toArray, List.getElem?_cons_succ, List.getElem?_cons_zero]; rfl) (fun K hK => ?_) AllReadyH.nil
      go_simp
      (go_at_call 28; refine (implDlm_any _ _).mono ?_; rintro e w' ⟨g2, c2, X2, d2, rfl, rfl, hg2, hown2⟩)
      go_wp2_with fail
      refine hK.out _ _ ?_ (fun hHeld => ?_)
      · ((try dsimp only); try exact trivial)
      clear hK K
      (try simp only [Act.put, List.setIfInBounds_toArray, List.set_cons_zero, List.set_cons_succ])
      refine wpAnyH_ready (rs := [7]) (by kernel_rfl) (by simp) ?_
      refine AllReadyH.cons (i := 7) (by simp only [List.getElem?_toArray, List.getElem?_cons_succ, List.getElem?_cons_zero]; rfl) (fun K hK => ?_) AllReadyH.nil
      go_simp
      (go_at_call 35; refine (implEqB_any _ _ _ _ (dlm n) ys _ (Rw.of_own hown2) (RY.out.below (by repeat (first | (with_reducible exact Below.refl _ _) | (with_reducible refine Below.ext ?_ (by go_size) _ _) | (with_reducible refine Below.alloc ?_ (by go_size) _) | (with_reducible refine Below.setCell ?_ (by go_size) _) | (with_reducible refine Below.drew ?_) | (with_reducible refine Below.drewN_ ?_ _)))) (by omega) (by omega)).mono ?_; rw [HQ.out]; rintro e w' ⟨rfl, hbw⟩; obtain ⟨X3, d3, rfl⟩ := Below.ext_ hbw; clear hbw)
      go_wp2_with fail
      refine hK.out _ _ ?_ (fun hHeld => ?_)
      · ((try dsimp only); try exact trivial)
      clear hK K
      (try simp only [Act.put, List.setIfInBounds_toArray, List.set_cons_zero, List.set_cons_succ])
      refine wpAnyH_takeW (i := 8) (d := some 34) (v := ?_) (by simp only [List.getElem?_toArray, List.getElem?_cons_succ, List.getElem?_cons_zero]; rfl) (by rfl) (by kernel_rfl) (by kernel_rfl) (by kernel_rfl) (by intro _ _ _ h; exact h) (by rfl) ?_ (by assumption) ?_
      rotate_left 1
      · (intro w hSw; (try dsimp only at hSw); go_simp; try (with_reducible rfl))
      (try simp only [Act.put, List.setIfInBounds_toArray, List.set_cons_zero, List.set_cons_succ])
      refine wpAnyH_done (by kernel_rfl) ?_ _
      go_wp2
      go_ret2
      exact ⟨ret_pd HV.out, (by repeat (first | (with_reducible exact Below.refl _ _) | (with_reducible refine Below.ext ?_ (by go_size) _ _) | (with_reducible refine Below.alloc ?_ (by go_size) _) | (with_reducible refine Below.setCell ?_ (by go_size) _) | (with_reducible refine Below.drew ?_) | (with_reducible refine Below.drewN_ ?_ _)))⟩
    · have HV : Hid (pd xs (k : Int) = ((a0 : Int) + 256 * (a1 : Int), true)) := Lib.hid (by rw [HP.out, if_pos (by simpa using hq)])
      have HQ := Lib.hid hq
      clear hq HP
      go_enter Try.func10, Try.ntmps10
      go_wp2_with (first | (go_at_call 34; refine (inRange_any _ _ _ _).mono ?_; rintro e w' ⟨rfl, rfl⟩))
      go_quiet (fail)
      go_wp2
      generalize hn : (a0 : Int) + 256 * (a1 : Int) = n at *
      have HN := Lib.hid hn
      clear hn
      refine wp_region_held_drew (S := (fun w' => True)) (by kernel_rfl) ?_ (fun hHeld => ?_)
      · try exact trivial
      refine wpAnyH_takeW (i := 0) (d := some 26) (v := ?_) (by simp only [List.getElem?_toArray, List.getElem?_cons_succ, List.getElem?_cons_zero]; rfl) (by rfl) (by kernel_rfl) (by kernel_rfl) (by kernel_rfl) (by intro _ _ _ h; exact h) (by rfl) ?_ (by assumption) ?_
      rotate_left 1
      · (intro w hSw; (try dsimp only at hSw); go_simp; try (with_reducible rfl))
      (try simp only [Act.put, List.setIfInBounds_toArray, List.set_cons_zero, List.set_cons_succ])
      refine wpAnyH_takeW (i := 2) (d := some 28) (v := ?_) (by simp only [List.getElem?_toArray, List.getElem?_cons_succ, List.getElem?_cons_zero]; rfl) (by rfl) (by kernel_rfl) (by kernel_rfl) (by kernel_rfl) (by intro _ _ _ h; exact h) (by rfl) ?_ (by assumption) ?_
      rotate_left 1
      · (intro w hSw; (try dsimp only at hSw); go_simp; try (with_reducible rfl))
      (try simp only [Act.put, List.setIfInBounds_toArray, List.set_cons_zero, List.set_cons_succ])
      refine wpAnyH_takeW (i := 3) (d := some 29) (v := ?_) (by simp only [List.getElem?_toArray, List.getElem?_cons_succ, List.getElem?_cons_zero]; rfl) (by rfl) (by kernel_rfl) (by kernel_rfl) (by kernel_rfl) (by intro _ _ _ h; exact h) (by rfl) ?_ (by assumption) ?_
      rotate_left 1
      · (intro w hSw; (try dsimp only at hSw); go_simp; try (with_reducible rfl))
      (try simp only [Act.put, List.setIfInBounds_toArray, List.set_cons_zero, List.set_cons_succ])
      refine wpAnyH_takeW (i := 4) (d := some 30) (v := ?_) (by simp only [List.getElem?_toArray, List.getElem?_cons_succ, List.getElem?_cons_zero]; rfl) (by rfl) (by kernel_rfl) (by kernel_rfl) (by kernel_rfl) (by intro _ _ _ h; exact h) (by rfl) ?_ (by assumption) ?_
      rotate_left 1
      · (intro w hSw; (try dsimp only at hSw); go_simp; try (with_reducible rfl))
      (try simp only [Act.put, List.setIfInBounds_toArray, List.set_cons_zero, List.set_cons_succ])
      refine wpAnyH_takeW (i := 5) (d := some 31) (v := ?_) (by simp only [List.getElem?_toArray, List.getElem?_cons_succ, List.getElem?_cons_zero]; rfl) (by rfl) (by kernel_rfl) (by kernel_rfl) (by kernel_rfl) (by intro _ _ _ h; exact h) (by rfl) ?_ (by assumption) ?_
      rotate_left 1
      · (intro w hSw; (try dsimp only at hSw); go_simp; try (with_reducible rfl))
      (try simp only [Act.put, List.setIfInBounds_toArray, List.set_cons_zero, List.set_cons_succ])
      refine wpAnyH_takeW (i := 6) (d := some 32) (v := ?_) (by simp only [List.getElem?_toArray, List.getElem?_cons_succ, List.getElem?_cons_zero]; rfl) (by rfl) (by kernel_rfl) (by kernel_rfl) (by kernel_rfl) (by intro _ _ _ h; exact h) (by rfl) ?_ (by assumption) ?_
      rotate_left 1
      · (intro w hSw; (try dsimp only at hSw); go_simp; try (with_reducible rfl))
      (try simp only [Act.put, List.setIfInBounds_toArray, List.set_cons_zero, List.set_cons_succ])
      refine wpAnyH_ready (rs := [1]) (by kernel_rfl) (by simp) ?_
      refine AllReadyH.cons (i := 1) (by simp only [List.getElem?_toArray, List.getElem?_cons_succ, List.getElem?_cons_zero]; rfl) (fun K hK => ?_) AllReadyH.nil
      go_simp
      (go_at_call 28; refine (implDlm_any _ _).mono ?_; rintro e w' ⟨g2, c2, X2, d2, rfl, rfl, hg2, hown2⟩)
      go_wp2_with fail
      refine hK.out _ _ ?_ (fun hHeld => ?_)
      · ((try dsimp only); try exact trivial)
      clear hK K
      (try simp only [Act.put, List.setIfInBounds_toArray, List.set_cons_zero, List.set_cons_succ])
      refine wpAnyH_ready (rs := [7]) (by kernel_rfl) (by simp) ?_
      refine AllReadyH.cons (i := 7) (by simp only [List.getElem?_toArray, List.getElem?_cons_succ, List.getElem?_cons_zero]; rfl) (fun K hK => ?_) AllReadyH.nil
      go_simp
      (go_at_call 35; refine (implEqB_any _ _ _ _ (dlm n) ys _ (Rw.of_own hown2) (RY.out.below (by repeat (first | (with_reducible exact Below.refl _ _) | (with_reducible refine Below.ext ?_ (by go_size) _ _) | (with_reducible refine Below.alloc ?_ (by go_size) _) | (with_reducible refine Below.setCell ?_ (by go_size) _) | (with_reducible refine Below.drew ?_) | (with_reducible refine Below.drewN_ ?_ _)))) (by omega) (by omega)).mono ?_; rw [HQ.out]; rintro e w' ⟨rfl, hbw⟩; obtain ⟨X3, d3, rfl⟩ := Below.ext_ hbw; clear hbw)
      go_wp2_with fail
      refine hK.out _ _ ?_ (fun hHeld => ?_)
      · ((try dsimp only); try exact trivial)
      clear hK K
      (try simp only [Act.put, List.setIfInBounds_toArray, List.set_cons_zero, List.set_cons_succ])
      refine wpAnyH_takeW (i := 8) (d := some 34) (v := ?_) (by simp only [List.getElem?_toArray, List.getElem?_cons_succ, List.getElem?_cons_zero]; rfl) (by rfl) (by kernel_rfl) (by kernel_rfl) (by kernel_rfl) (by intro _ _ _ h; exact h) (by rfl) ?_ (by assumption) ?_
      rotate_left 1
      · (intro w hSw; (try dsimp only at hSw); go_simp; try (with_reducible rfl))
      (try simp only [Act.put, List.setIfInBounds_toArray, List.set_cons_zero, List.set_cons_succ])
      refine wpAnyH_done (by kernel_rfl) ?_ _
      go_wp2
      go_ret2
      exact ⟨ret_pd HV.out, (by repeat (first | (with_reducible exact Below.refl _ _) | (with_reducible refine Below.ext ?_ (by go_size) _ _) | (with_reducible refine Below.alloc ?_ (by go_size) _) | (with_reducible refine Below.setCell ?_ (by go_size) _) | (with_reducible refine Below.drew ?_) | (with_reducible refine Below.drewN_ ?_ _)))⟩
  · have hp : pd xs off = (0, false) := by
      rw [pd]
      split
      · rename_i h
        rw [pdN, if_neg]
        intro h2
        exact hin (by omega)
      · rfl
    have hR : inR off 0 ((xs.length : Int) - 4) = false := inR_not hin
    have HP := Lib.hid hp
    clear hx hb hp
    go_enter Try.func10, Try.ntmps10
    go_wp2_with (first | (go_at_call 34; refine (inRange_any _ _ _ _).mono ?_; rintro e w' ⟨rfl, rfl⟩))
    go_ret2
    exact ⟨ret_pd HP.out, (by repeat (first | (with_reducible exact Below.refl _ _) | (with_reducible refine Below.ext ?_ (by go_size) _ _) | (with_reducible refine Below.alloc ?_ (by go_size) _) | (with_reducible refine Below.setCell ?_ (by go_size) _) | (with_reducible refine Below.drew ?_) | (with_reducible refine Below.drewN_ ?_ _)))⟩

set_option maxHeartbeats 4000000 in
theorem specPd_any {u : Bool} {T : Nat → Prop} (A : Option Addr) (c : Nat) (xs : List Int) (off : Int) (w : World) (hx : Rw u .u8 w T A xs) (hm : xs.length ≤ 1000000000000) (hc : xs.length ≤ c) (hb : ∀ x ∈ xs, 0 ≤ x ∧ x ≤ 255) (ho : I64 off) :
    Calls Try.prog 8 #[.slice A xs.length c, .int .i64 off] w fun e w' => e = .returned (.tuple #[.int .i64 (pd xs off).1, .bool (pd xs off).2]) ∧ Below w.heap.size w w' := by
  obtain ⟨ho0, ho1⟩ := ho
  by_cases hin : 0 ≤ off ∧ off ≤ (xs.length : Int) - 4
  · obtain ⟨h0, h1⟩ := hin
    obtain ⟨k, rfl⟩ := Int.eq_ofNat_of_zero_le h0
    have hk : k + 4 ≤ xs.length := by omega
    have hR : inR (k : Int) 0 ((xs.length : Int) - 4) = true := inR_of ⟨h0, h1⟩
    obtain ⟨g, o, rfl, _, hg, hc0, _⟩ := hx k (by omega)
    obtain ⟨g', o', hA, _, _, hc1, _⟩ := hx (k + 1) (by omega)
    injection hA with hA
    injection hA with e1 e2
    subst e1 e2
    have b0 := hb xs[k] (List.getElem_mem _)
    have b1 := hb xs[k + 1] (List.getElem_mem _)
    have hhd : hdr xs k = xs[k] + 256 * xs[k + 1] := by
      have hk1 : k < xs.length := by omega
      have hk2 : k + 1 < xs.length := by omega
      simp [hdr, List.getD, List.getElem?_eq_getElem hk1, List.getElem?_eq_getElem hk2]
    have hp : pd xs (k : Int) = if dlm (hdr xs k) = (xs.drop k).take 4 then (hdr xs k, true) else (0, false) := by
      rw [pd, if_pos (by omega)]
      show pdN xs k = _
      unfold pdN
      by_cases hd : dlm (hdr xs k) = (xs.drop k).take 4
      · rw [if_pos hd, if_pos ⟨hk, hd⟩]
      · rw [if_neg hd, if_neg (fun h => hd h.2)]
    have RY : Hid (Rw u .u8 w T (some ⟨g, o + k, none⟩) ((xs.drop k).take 4)) := Lib.hid (sub_row hx)
    have HYB : Hid (∀ y ∈ (xs.drop k).take 4, 0 ≤ y ∧ y ≤ 255) := Lib.hid (fun y hy => hb y (List.mem_of_mem_drop (List.mem_of_mem_take hy)))
    have hyl : ((xs.drop k).take 4).length = 4 := by simp; omega
    have hsl : ∀ W : World, (Instr.slice 22 (.slice (some ⟨g, o, none⟩) xs.length c) (some (.int .i64 (k : Int))) (some (.int .i64 ((k : Int) + 4))) none).run Try.prog W =   .ok (.slice (some ⟨g, o + k, none⟩) ((xs.drop k).take 4).length (c - k)) W := by
      intro W
      rw [hyl]
      have := Lib.run_slice_window (P := Try.prog) W 22 5 Try.underlying22 sz1 g o xs.length c k (k + 4) (by omega) (by omega)
      rw [show k + 4 - k = 4 by omega] at this
      exact this
    generalize hys : (xs.drop k).take 4 = ys at *
    have HYL := Lib.hid hyl
    have hyl2 : ys.length ≤ 4 := by omega
    clear hyl
    rw [hhd] at hp
    have hdl := dlm_len (xs[k] + 256 * xs[k + 1])
    generalize xs[k] = x0 at *
    generalize xs[k + 1] = x1 at *
    obtain ⟨b00, b01⟩ := b0
    obtain ⟨b10, b11⟩ := b1
    obtain ⟨a0, rfl⟩ := Int.eq_ofNat_of_zero_le b00
    obtain ⟨a1, rfl⟩ := Int.eq_ofNat_of_zero_le b10
    have i1 : IntKind.i64.wrap ((k : Int) + 1) = (k : Int) + 1 := by rw [IntKind.wrap_i64]; omega
    have i2 : 0 ≤ (k : Int) + 1 := by omega
    have i3 : ((k : Int) + 1).toNat = k + 1 := by omega
    have i4 : IntKind.i64.wrap ((k : Int) + 4) = (k : Int) + 4 := by rw [IntKind.wrap_i64]; omega
    have i5 : (k : Int) + 1 < (xs.length : Int) := by omega
    have i6 : (k : Int) < (xs.length : Int) := by omega
    have i7 : IntKind.i64.wrap (256 * (a1 : Int)) = 256 * (a1 : Int) := by rw [IntKind.wrap_i64]; omega
    have i8 : IntKind.i64.wrap ((a0 : Int) + 256 * (a1 : Int)) = (a0 : Int) + 256 * (a1 : Int) := by rw [IntKind.wrap_i64]; omega
    have i9 : (xs.length : Int) - 4 ≥ (k : Int) := by omega
    
    have HC1 : Hid (w.cell? ⟨g, o + (k + 1), none⟩ = some (.int .u8 (a1 : Int))) := Lib.hid hc1
    have hc1b : w.cell? ⟨g, o + (k + 1), none⟩ = some (.int .u8 (a1 : Int)) := hc1
    clear hc1 HC1 hx hb hhd hys h0 ho0 ho1
    have HP := Lib.hid hp
    clear hp
    have hor : bits .or .i64 (a0 : Int) ((a1 : Int) * 256) = (a0 : Int) + 256 * (a1 : Int) := or_hdr a0 a1 (by omega) (by omega)
    have hw1 : IntKind.i64.wrap ((a1 : Int) * 256) = (a1 : Int) * 256 := by rw [IntKind.wrap_i64]; omega
    have hlt1 : ¬ (k : Int) < 0 := by omega
    have hlt2 : ¬ ((xs.length : Int) - 4 < (k : Int)) := by omega
    cases hi2 : inR ((a0 : Int) + 256 * (a1 : Int)) 0 200
    · have HV : Hid (pd xs (k : Int) = (0, false)) := Lib.hid (by
        rw [HP.out, if_neg]
        rw [dlm_out hi2]
        intro h
        have := HYL.out
        rw [← h] at this
        simp at this)
      have HIN := Lib.hid hi2
      clear hi2 HP
      go_enter Try.func8, Try.ntmps8
      go_wp2
      go_quiet (fail)
      go_wp2
      generalize hn : (a0 : Int) + 256 * (a1 : Int) = n at *
      have HN := Lib.hid hn
      clear hn
      refine wp_region_held_drew (S := (fun w' => True)) (by kernel_rfl) ?_ (fun hHeld => ?_)
      · try exact trivial
      refine wpAnyH_takeW (i := 0) (d := some 29) (v := ?_) (by simp only [List.getElem?_toArray, List.getElem?_cons_succ, List.getElem?_cons_zero]; rfl) (by rfl) (by kernel_rfl) (by kernel_rfl) (by kernel_rfl) (by intro _ _ _ h; exact h) (by rfl) ?_ (by assumption) ?_
      rotate_left 1
      · (intro w hSw; (try dsimp only at hSw); go_simp; try (with_reducible rfl))
      (try simp only [Act.put, List.setIfInBounds_toArray, List.set_cons_zero, List.set_cons_succ])
      refine wpAnyH_ready (rs := [1]) (by kernel_rfl) (by simp) ?_
      refine AllReadyH.cons (i := 1) (by simp only [List.getElem?_toArray, List.getElem?_cons_succ, List.getElem?_cons_zero]; rfl) (fun K hK => ?_) AllReadyH.nil
      go_simp
      (go_at_call 31; refine (l1In_any _ _ _ _).mono ?_; rw [HIN.out]; rintro e w' ⟨rfl, rfl⟩)
      go_wp2_with fail
      refine hK.out _ _ ?_ (fun hHeld => ?_)
      · ((try dsimp only); try exact trivial)
      clear hK K
      (try simp only [Act.put, List.setIfInBounds_toArray, List.set_cons_zero, List.set_cons_succ])
      refine wpAnyH_takeW (i := 2) (d := some 31) (v := ?_) (by simp only [List.getElem?_toArray, List.getElem?_cons_succ, List.getElem?_cons_zero]; rfl) (by rfl) (by kernel_rfl) (by kernel_rfl) (by kernel_rfl) (by intro _ _ _ h; exact h) (by rfl) ?_ (by assumption) ?_
      rotate_left 1
      · (intro w hSw; (try dsimp only at hSw); go_simp; try (with_reducible rfl))
      (try simp only [Act.put, List.setIfInBounds_toArray, List.set_cons_zero, List.set_cons_succ])
      refine wpAnyH_takeW (i := 3) (d := some 32) (v := ?_) (by simp only [List.getElem?_toArray, List.getElem?_cons_succ, List.getElem?_cons_zero]; rfl) (by rfl) (by kernel_rfl) (by kernel_rfl) (by kernel_rfl) (by intro _ _ _ h; exact h) (by rfl) ?_ (by assumption) ?_
      rotate_left 1
      · (intro w hSw; (try dsimp only at hSw); go_simp; try (with_reducible rfl))
      (try simp only [Act.put, List.setIfInBounds_toArray, List.set_cons_zero, List.set_cons_succ])
      refine wpAnyH_takeU (i := 4) (d := some 33) (by simp only [List.getElem?_toArray, List.getElem?_cons_succ, List.getElem?_cons_zero]; rfl) (by rfl) (by kernel_rfl) (by kernel_rfl) (by kernel_rfl) (by intro _ _ _ h; exact h) (by rfl) (by assumption) ?_
      (try simp only [Act.put, List.setIfInBounds_toArray, List.set_cons_zero, List.set_cons_succ])
      refine wpAnyH_takeU (i := 5) (d := some 34) (by simp only [List.getElem?_toArray, List.getElem?_cons_succ, List.getElem?_cons_zero]; rfl) (by rfl) (by kernel_rfl) (by kernel_rfl) (by kernel_rfl) (by intro _ _ _ h; exact h) (by rfl) (by assumption) ?_
      (try simp only [Act.put, List.setIfInBounds_toArray, List.set_cons_zero, List.set_cons_succ])
      refine wpAnyH_takeU (i := 6) (d := some 35) (by simp only [List.getElem?_toArray, List.getElem?_cons_succ, List.getElem?_cons_zero]; rfl) (by rfl) (by kernel_rfl) (by kernel_rfl) (by kernel_rfl) (by intro _ _ _ h; exact h) (by rfl) (by assumption) ?_
      (try simp only [Act.put, List.setIfInBounds_toArray, List.set_cons_zero, List.set_cons_succ])
      refine wpAnyH_takeU (i := 7) (d := some 36) (by simp only [List.getElem?_toArray, List.getElem?_cons_succ, List.getElem?_cons_zero]; rfl) (by rfl) (by kernel_rfl) (by kernel_rfl) (by kernel_rfl) (by intro _ _ _ h; exact h) (by rfl) (by assumption) ?_
      (try simp only [Act.put, List.setIfInBounds_toArray, List.set_cons_zero, List.set_cons_succ])
      refine wpAnyH_takeU (i := 8) (d := some 37) (by simp only [List.getElem?_toArray, List.getElem?_cons_succ, List.getElem?_cons_zero]; rfl) (by rfl) (by kernel_rfl) (by kernel_rfl) (by kernel_rfl) (by intro _ _ _ h; exact h) (by rfl) (by assumption) ?_
      (try simp only [Act.put, List.setIfInBounds_toArray, List.set_cons_zero, List.set_cons_succ])
      refine wpAnyH_takeU (i := 9) (d := some 38) (by simp only [List.getElem?_toArray, List.getElem?_cons_succ, List.getElem?_cons_zero]; rfl) (by rfl) (by kernel_rfl) (by kernel_rfl) (by kernel_rfl) (by intro _ _ _ h; exact h) (by rfl) (by assumption) ?_
      (try simp only [Act.put, List.setIfInBounds_toArray, List.set_cons_zero, List.set_cons_succ])
      refine wpAnyH_takeU (i := 10) (d := some 39) (by simp only [List.getElem?_toArray, List.getElem?_cons_succ, List.getElem?_cons_zero]; rfl) (by rfl) (by kernel_rfl) (by kernel_rfl) (by kernel_rfl) (by intro _ _ _ h; exact h) (by rfl) (by assumption) ?_
      (try simp only [Act.put, List.setIfInBounds_toArray, List.set_cons_zero, List.set_cons_succ])
      refine wpAnyH_takeU (i := 11) (d := some 40) (by simp only [List.getElem?_toArray, List.getElem?_cons_succ, List.getElem?_cons_zero]; rfl) (by rfl) (by kernel_rfl) (by kernel_rfl) (by kernel_rfl) (by intro _ _ _ h; exact h) (by rfl) (by assumption) ?_
      (try simp only [Act.put, List.setIfInBounds_toArray, List.set_cons_zero, List.set_cons_succ])
      refine wpAnyH_takeU (i := 12) (d := some 41) (by simp only [List.getElem?_toArray, List.getElem?_cons_succ, List.getElem?_cons_zero]; rfl) (by rfl) (by kernel_rfl) (by kernel_rfl) (by kernel_rfl) (by intro _ _ _ h; exact h) (by rfl) (by assumption) ?_
      (try simp only [Act.put, List.setIfInBounds_toArray, List.set_cons_zero, List.set_cons_succ])
      refine wpAnyH_takeW (i := 13) (d := some 42) (v := ?_) (by simp only [List.getElem?_toArray, List.getElem?_cons_succ, List.getElem?_cons_zero]; rfl) (by rfl) (by kernel_rfl) (by kernel_rfl) (by kernel_rfl) (by intro _ _ _ h; exact h) (by rfl) ?_ (by assumption) ?_
      rotate_left 1
      · (intro w hSw; (try dsimp only at hSw); go_simp; try (with_reducible rfl))
      (try simp only [Act.put, List.setIfInBounds_toArray, List.set_cons_zero, List.set_cons_succ])
      refine wpAnyH_done (by kernel_rfl) ?_ _
      go_wp2
      go_ret2
      exact ⟨ret_pd HV.out, (by repeat (first | (with_reducible exact Below.refl _ _) | (with_reducible refine Below.ext ?_ (by go_size) _ _) | (with_reducible refine Below.alloc ?_ (by go_size) _) | (with_reducible refine Below.setCell ?_ (by go_size) _) | (with_reducible refine Below.drew ?_) | (with_reducible refine Below.drewN_ ?_ _)))⟩
    · have HIN := Lib.hid hi2
      clear hi2
      cases hq : (dlm ((a0 : Int) + 256 * (a1 : Int)) == ys)
      · have HV : Hid (pd xs (k : Int) = (0, false)) := Lib.hid (by rw [HP.out, if_neg (by simpa using hq)])
        have HQ := Lib.hid hq
        clear hq HP
        go_enter Try.func8, Try.ntmps8
        go_wp2
        go_quiet (fail)
        go_wp2
        generalize hn : (a0 : Int) + 256 * (a1 : Int) = n at *
        have HN := Lib.hid hn
        clear hn
        refine wp_region_held_drew (S := (fun w' => True)) (by kernel_rfl) ?_ (fun hHeld => ?_)
        · try exact trivial
        refine wpAnyH_takeW (i := 0) (d := some 29) (v := ?_) (by simp only [List.getElem?_toArray, List.getElem?_cons_succ, List.getElem?_cons_zero]; rfl) (by rfl) (by kernel_rfl) (by kernel_rfl) (by kernel_rfl) (by intro _ _ _ h; exact h) (by rfl) ?_ (by assumption) ?_
        rotate_left 1
        · (intro w hSw; (try dsimp only at hSw); go_simp; try (with_reducible rfl))
        (try simp only [Act.put, List.setIfInBounds_toArray, List.set_cons_zero, List.set_cons_succ])
        refine wpAnyH_ready (rs := [1]) (by kernel_rfl) (by simp) ?_
        refine AllReadyH.cons (i := 1) (by simp only [List.getElem?_toArray, List.getElem?_cons_succ, List.getElem?_cons_zero]; rfl) (fun K hK => ?_) AllReadyH.nil
        go_simp
        (go_at_call 31; refine (l1In_any _ _ _ _).mono ?_; rw [HIN.out]; rintro e w' ⟨rfl, rfl⟩)
        go_wp2_with fail
        refine hK.out _ _ ?_ (fun hHeld => ?_)
        · ((try dsimp only); try exact trivial)
        clear hK K
        (try simp only [Act.put, List.setIfInBounds_toArray, List.set_cons_zero, List.set_cons_succ])
        refine wpAnyH_takeW (i := 2) (d := some 31) (v := ?_) (by simp only [List.getElem?_toArray, List.getElem?_cons_succ, List.getElem?_cons_zero]; rfl) (by rfl) (by kernel_rfl) (by kernel_rfl) (by kernel_rfl) (by intro _ _ _ h; exact h) (by rfl) ?_ (by assumption) ?_
        rotate_left 1
        · (intro w hSw; (try dsimp only at hSw); go_simp; try (with_reducible rfl))
        (try simp only [Act.put, List.setIfInBounds_toArray, List.set_cons_zero, List.set_cons_succ])
        refine wpAnyH_takeW (i := 3) (d := some 32) (v := ?_) (by simp only [List.getElem?_toArray, List.getElem?_cons_succ, List.getElem?_cons_zero]; rfl) (by rfl) (by kernel_rfl) (by kernel_rfl) (by kernel_rfl) (by intro _ _ _ h; exact h) (by rfl) ?_ (by assumption) ?_
        rotate_left 1
        · (intro w hSw; (try dsimp only at hSw); go_simp; try (with_reducible rfl))
        (try simp only [Act.put, List.setIfInBounds_toArray, List.set_cons_zero, List.set_cons_succ])
        refine wpAnyH_takeW (i := 4) (d := some 33) (v := ?_) (by simp only [List.getElem?_toArray, List.getElem?_cons_succ, List.getElem?_cons_zero]; rfl) (by rfl) (by kernel_rfl) (by kernel_rfl) (by kernel_rfl) (by intro _ _ _ h; exact h) (by rfl) ?_ (by assumption) ?_
        rotate_left 1
        · (intro w hSw; (try dsimp only at hSw); go_simp; try (with_reducible rfl))
        (try simp only [Act.put, List.setIfInBounds_toArray, List.set_cons_zero, List.set_cons_succ])
        refine wpAnyH_takeW (i := 6) (d := some 35) (v := ?_) (by simp only [List.getElem?_toArray, List.getElem?_cons_succ, List.getElem?_cons_zero]; rfl) (by rfl) (by kernel_rfl) (by kernel_rfl) (by kernel_rfl) (by intro _ _ _ h; exact h) (by rfl) ?_ (by assumption) ?_
        rotate_left 1
        · (intro w hSw; (try dsimp only at hSw); go_simp; try (with_reducible rfl))
        (try simp only [Act.put, List.setIfInBounds_toArray, List.set_cons_zero, List.set_cons_succ])
        refine wpAnyH_takeW (i := 7) (d := some 36) (v := ?_) (by simp only [List.getElem?_toArray, List.getElem?_cons_succ, List.getElem?_cons_zero]; rfl) (by rfl) (by kernel_rfl) (by kernel_rfl) (by kernel_rfl) (by intro _ _ _ h; exact h) (by rfl) ?_ (by assumption) ?_
        rotate_left 1
        · (intro w hSw; (try dsimp only at hSw); go_simp; try (with_reducible rfl))
        (try simp only [Act.put, List.setIfInBounds_toArray, List.set_cons_zero, List.set_cons_succ])
        refine wpAnyH_takeW (i := 8) (d := some 37) (v := ?_) (by simp only [List.getElem?_toArray, List.getElem?_cons_succ, List.getElem?_cons_zero]; rfl) (by rfl) (by kernel_rfl) (by kernel_rfl) (by kernel_rfl) (by intro _ _ _ h; exact h) (by rfl) ?_ (by assumption) ?_
        rotate_left 1
        · (intro w hSw; (try dsimp only at hSw); go_simp; try (with_reducible rfl))
        (try simp only [Act.put, List.setIfInBounds_toArray, List.set_cons_zero, List.set_cons_succ])
        refine wpAnyH_takeW (i := 9) (d := some 38) (v := ?_) (by simp only [List.getElem?_toArray, List.getElem?_cons_succ, List.getElem?_cons_zero]; rfl) (by rfl) (by kernel_rfl) (by kernel_rfl) (by kernel_rfl) (by intro _ _ _ h; exact h) (by rfl) ?_ (by assumption) ?_
        rotate_left 1
        · (intro w hSw; (try dsimp only at hSw); go_simp; try (with_reducible rfl))
        (try simp only [Act.put, List.setIfInBounds_toArray, List.set_cons_zero, List.set_cons_succ])
        refine wpAnyH_takeW (i := 10) (d := some 39) (v := ?_) (by simp only [List.getElem?_toArray, List.getElem?_cons_succ, List.getElem?_cons_zero]; rfl) (by rfl) (by kernel_rfl) (by kernel_rfl) (by kernel_rfl) (by intro _ _ _ h; exact h) (by rfl) ?_ (by assumption) ?_
        rotate_left 1
        · (intro w hSw; (try dsimp only at hSw); go_simp; try (with_reducible rfl))
        (try simp only [Act.put, List.setIfInBounds_toArray, List.set_cons_zero, List.set_cons_succ])
        refine wpAnyH_ready (rs := [5]) (by kernel_rfl) (by simp) ?_
        refine AllReadyH.cons (i := 5) (by simp only [List.getElem?_toArray, List.getElem?_cons_succ, List.getElem?_cons_zero]; rfl) (fun K hK => ?_) AllReadyH.nil
        go_simp
        (go_at_call 33; refine (specDlm_any _ _).mono ?_; rintro e w' ⟨g2, c2, X2, d2, rfl, rfl, hg2, hown2⟩)
        go_wp2_with fail
        refine hK.out _ _ ?_ (fun hHeld => ?_)
        · ((try dsimp only); try exact trivial)
        clear hK K
        (try simp only [Act.put, List.setIfInBounds_toArray, List.set_cons_zero, List.set_cons_succ])
        refine wpAnyH_ready (rs := [11]) (by kernel_rfl) (by simp) ?_
        refine AllReadyH.cons (i := 11) (by simp only [List.getElem?_toArray, List.getElem?_cons_succ, List.getElem?_cons_zero]; rfl) (fun K hK => ?_) AllReadyH.nil
        go_simp
        (go_at_call 32; refine (specEqB_any _ _ _ _ (dlm n) ys _ (Rw.of_own hown2) (RY.out.below (by repeat (first | (with_reducible exact Below.refl _ _) | (with_reducible refine Below.ext ?_ (by go_size) _ _) | (with_reducible refine Below.alloc ?_ (by go_size) _) | (with_reducible refine Below.setCell ?_ (by go_size) _) | (with_reducible refine Below.drew ?_) | (with_reducible refine Below.drewN_ ?_ _)))) (dlm_ub n) HYB.out).mono ?_; rw [HQ.out]; rintro e w' ⟨rfl, hbw⟩; obtain ⟨X3, d3, rfl⟩ := Below.ext_ hbw; clear hbw)
        go_wp2_with fail
        refine hK.out _ _ ?_ (fun hHeld => ?_)
        · ((try dsimp only); try exact trivial)
        clear hK K
        (try simp only [Act.put, List.setIfInBounds_toArray, List.set_cons_zero, List.set_cons_succ])
        refine wpAnyH_takeW (i := 12) (d := some 41) (v := ?_) (by simp only [List.getElem?_toArray, List.getElem?_cons_succ, List.getElem?_cons_zero]; rfl) (by rfl) (by kernel_rfl) (by kernel_rfl) (by kernel_rfl) (by intro _ _ _ h; exact h) (by rfl) ?_ (by assumption) ?_
        rotate_left 1
        · (intro w hSw; (try dsimp only at hSw); go_simp; try (with_reducible rfl))
        (try simp only [Act.put, List.setIfInBounds_toArray, List.set_cons_zero, List.set_cons_succ])
        refine wpAnyH_takeW (i := 13) (d := some 42) (v := ?_) (by simp only [List.getElem?_toArray, List.getElem?_cons_succ, List.getElem?_cons_zero]; rfl) (by rfl) (by kernel_rfl) (by kernel_rfl) (by kernel_rfl) (by intro _ _ _ h; exact h) (by rfl) ?_ (by assumption) ?_
        rotate_left 1
        · (intro w hSw; (try dsimp only at hSw); go_simp; try (with_reducible rfl))
        (try simp only [Act.put, List.setIfInBounds_toArray, List.set_cons_zero, List.set_cons_succ])
        refine wpAnyH_done (by kernel_rfl) ?_ _
        go_wp2
        go_ret2
        exact ⟨ret_pd HV.out, (by repeat (first | (with_reducible exact Below.refl _ _) | (with_reducible refine Below.ext ?_ (by go_size) _ _) | (with_reducible refine Below.alloc ?_ (by go_size) _) | (with_reducible refine Below.setCell ?_ (by go_size) _) | (with_reducible refine Below.drew ?_) | (with_reducible refine Below.drewN_ ?_ _)))⟩
      · have HV : Hid (pd xs (k : Int) = ((a0 : Int) + 256 * (a1 : Int), true)) := Lib.hid (by rw [HP.out, if_pos (by simpa using hq)])
        have HQ := Lib.hid hq
        clear hq HP
        go_enter Try.func8, Try.ntmps8
        go_wp2
        go_quiet (fail)
        go_wp2
        generalize hn : (a0 : Int) + 256 * (a1 : Int) = n at *
        have HN := Lib.hid hn
        clear hn
        refine wp_region_held_drew (S := (fun w' => True)) (by kernel_rfl) ?_ (fun hHeld => ?_)
        · try exact trivial
        refine wpAnyH_takeW (i := 0) (d := some 29) (v := ?_) (by simp only [List.getElem?_toArray, List.getElem?_cons_succ, List.getElem?_cons_zero]; rfl) (by rfl) (by kernel_rfl) (by kernel_rfl) (by kernel_rfl) (by intro _ _ _ h; exact h) (by rfl) ?_ (by assumption) ?_
        rotate_left 1
        · (intro w hSw; (try dsimp only at hSw); go_simp; try (with_reducible rfl))
        (try simp only [Act.put, List.setIfInBounds_toArray, List.set_cons_zero, List.set_cons_succ])
        refine wpAnyH_ready (rs := [1]) (by kernel_rfl) (by simp) ?_
        refine AllReadyH.cons (i := 1) (by simp only [List.getElem?_toArray, List.getElem?_cons_succ, List.getElem?_cons_zero]; rfl) (fun K hK => ?_) AllReadyH.nil
        go_simp
        (go_at_call 31; refine (l1In_any _ _ _ _).mono ?_; rw [HIN.out]; rintro e w' ⟨rfl, rfl⟩)
        go_wp2_with fail
        refine hK.out _ _ ?_ (fun hHeld => ?_)
        · ((try dsimp only); try exact trivial)
        clear hK K
        (try simp only [Act.put, List.setIfInBounds_toArray, List.set_cons_zero, List.set_cons_succ])
        refine wpAnyH_takeW (i := 2) (d := some 31) (v := ?_) (by simp only [List.getElem?_toArray, List.getElem?_cons_succ, List.getElem?_cons_zero]; rfl) (by rfl) (by kernel_rfl) (by kernel_rfl) (by kernel_rfl) (by intro _ _ _ h; exact h) (by rfl) ?_ (by assumption) ?_
        rotate_left 1
        · (intro w hSw; (try dsimp only at hSw); go_simp; try (with_reducible rfl))
        (try simp only [Act.put, List.setIfInBounds_toArray, List.set_cons_zero, List.set_cons_succ])
        refine wpAnyH_takeW (i := 3) (d := some 32) (v := ?_) (by simp only [List.getElem?_toArray, List.getElem?_cons_succ, List.getElem?_cons_zero]; rfl) (by rfl) (by kernel_rfl) (by kernel_rfl) (by kernel_rfl) (by intro _ _ _ h; exact h) (by rfl) ?_ (by assumption) ?_
        rotate_left 1
        · (intro w hSw; (try dsimp only at hSw); go_simp; try (with_reducible rfl))
        (try simp only [Act.put, List.setIfInBounds_toArray, List.set_cons_zero, List.set_cons_succ])
        refine wpAnyH_takeW (i := 4) (d := some 33) (v := ?_) (by simp only [List.getElem?_toArray, List.getElem?_cons_succ, List.getElem?_cons_zero]; rfl) (by rfl) (by kernel_rfl) (by kernel_rfl) (by kernel_rfl) (by intro _ _ _ h; exact h) (by rfl) ?_ (by assumption) ?_
        rotate_left 1
        · (intro w hSw; (try dsimp only at hSw); go_simp; try (with_reducible rfl))
        (try simp only [Act.put, List.setIfInBounds_toArray, List.set_cons_zero, List.set_cons_succ])
        refine wpAnyH_takeW (i := 6) (d := some 35) (v := ?_) (by simp only [List.getElem?_toArray, List.getElem?_cons_succ, List.getElem?_cons_zero]; rfl) (by rfl) (by kernel_rfl) (by kernel_rfl) (by kernel_rfl) (by intro _ _ _ h; exact h) (by rfl) ?_ (by assumption) ?_
        rotate_left 1
        · (intro w hSw; (try dsimp only at hSw); go_simp; try (with_reducible rfl))
        (try simp only [Act.put, List.setIfInBounds_toArray, List.set_cons_zero, List.set_cons_succ])
        refine wpAnyH_takeW (i := 7) (d := some 36) (v := ?_) (by simp only [List.getElem?_toArray, List.getElem?_cons_succ, List.getElem?_cons_zero]; rfl) (by rfl) (by kernel_rfl) (by kernel_rfl) (by kernel_rfl) (by intro _ _ _ h; exact h) (by rfl) ?_ (by assumption) ?_
        rotate_left 1
        · (intro w hSw; (try dsimp only at hSw); go_simp; try (with_reducible rfl))
        (try simp only [Act.put, List.setIfInBounds_toArray, List.set_cons_zero, List.set_cons_succ])
        refine wpAnyH_takeW (i := 8) (d := some 37) (v := ?_) (by simp only [List.getElem?_toArray, List.getElem?_cons_succ, List.getElem?_cons_zero]; rfl) (by rfl) (by kernel_rfl) (by kernel_rfl) (by kernel_rfl) (by intro _ _ _ h; exact h) (by rfl) ?_ (by assumption) ?_
        rotate_left 1
        · (intro w hSw; (try dsimp only at hSw); go_simp; try (with_reducible rfl))
        (try simp only [Act.put, List.setIfInBounds_toArray, List.set_cons_zero, List.set_cons_succ])
        refine wpAnyH_takeW (i := 9) (d := some 38) (v := ?_) (by simp only [List.getElem?_toArray, List.getElem?_cons_succ, List.getElem?_cons_zero]; rfl) (by rfl) (by kernel_rfl) (by kernel_rfl) (by kernel_rfl) (by intro _ _ _ h; exact h) (by rfl) ?_ (by assumption) ?_
        rotate_left 1
        · (intro w hSw; (try dsimp only at hSw); go_simp; try (with_reducible rfl))
        (try simp only [Act.put, List.setIfInBounds_toArray, List.set_cons_zero, List.set_cons_succ])
        refine wpAnyH_takeW (i := 10) (d := some 39) (v := ?_) (by simp only [List.getElem?_toArray, List.getElem?_cons_succ, List.getElem?_cons_zero]; rfl) (by rfl) (by kernel_rfl) (by kernel_rfl) (by kernel_rfl) (by intro _ _ _ h; exact h) (by rfl) ?_ (by assumption) ?_
        rotate_left 1
        · (intro w hSw; (try dsimp only at hSw); go_simp; try (with_reducible rfl))
        (try simp only [Act.put, List.setIfInBounds_toArray, List.set_cons_zero, List.set_cons_succ])
        refine wpAnyH_ready (rs := [5]) (by kernel_rfl) (by simp) ?_
        refine AllReadyH.cons (i := 5) (by simp only [List.getElem?_toArray, List.getElem?_cons_succ, List.getElem?_cons_zero]; rfl) (fun K hK => ?_) AllReadyH.nil
        go_simp
        (go_at_call 33; refine (specDlm_any _ _).mono ?_; rintro e w' ⟨g2, c2, X2, d2, rfl, rfl, hg2, hown2⟩)
        go_wp2_with fail
        refine hK.out _ _ ?_ (fun hHeld => ?_)
        · ((try dsimp only); try exact trivial)
        clear hK K
        (try simp only [Act.put, List.setIfInBounds_toArray, List.set_cons_zero, List.set_cons_succ])
        refine wpAnyH_ready (rs := [11]) (by kernel_rfl) (by simp) ?_
        refine AllReadyH.cons (i := 11) (by simp only [List.getElem?_toArray, List.getElem?_cons_succ, List.getElem?_cons_zero]; rfl) (fun K hK => ?_) AllReadyH.nil
        go_simp
        (go_at_call 32; refine (specEqB_any _ _ _ _ (dlm n) ys _ (Rw.of_own hown2) (RY.out.below (by repeat (first | (with_reducible exact Below.refl _ _) | (with_reducible refine Below.ext ?_ (by go_size) _ _) | (with_reducible refine Below.alloc ?_ (by go_size) _) | (with_reducible refine Below.setCell ?_ (by go_size) _) | (with_reducible refine Below.drew ?_) | (with_reducible refine Below.drewN_ ?_ _)))) (dlm_ub n) HYB.out).mono ?_; rw [HQ.out]; rintro e w' ⟨rfl, hbw⟩; obtain ⟨X3, d3, rfl⟩ := Below.ext_ hbw; clear hbw)
        go_wp2_with fail
        refine hK.out _ _ ?_ (fun hHeld => ?_)
        · ((try dsimp only); try exact trivial)
        clear hK K
        (try simp only [Act.put, List.setIfInBounds_toArray, List.set_cons_zero, List.set_cons_succ])
        refine wpAnyH_takeW (i := 12) (d := some 41) (v := ?_) (by simp only [List.getElem?_toArray, List.getElem?_cons_succ, List.getElem?_cons_zero]; rfl) (by rfl) (by kernel_rfl) (by kernel_rfl) (by kernel_rfl) (by intro _ _ _ h; exact h) (by rfl) ?_ (by assumption) ?_
        rotate_left 1
        · (intro w hSw; (try dsimp only at hSw); go_simp; try (with_reducible rfl))
        (try simp only [Act.put, List.setIfInBounds_toArray, List.set_cons_zero, List.set_cons_succ])
        refine wpAnyH_takeW (i := 13) (d := some 42) (v := ?_) (by simp only [List.getElem?_toArray, List.getElem?_cons_succ, List.getElem?_cons_zero]; rfl) (by rfl) (by kernel_rfl) (by kernel_rfl) (by kernel_rfl) (by intro _ _ _ h; exact h) (by rfl) ?_ (by assumption) ?_
        rotate_left 1
        · (intro w hSw; (try dsimp only at hSw); go_simp; try (with_reducible rfl))
        (try simp only [Act.put, List.setIfInBounds_toArray, List.set_cons_zero, List.set_cons_succ])
        refine wpAnyH_done (by kernel_rfl) ?_ _
        go_wp2
        go_ret2
        exact ⟨ret_pd HV.out, (by repeat (first | (with_reducible exact Below.refl _ _) | (with_reducible refine Below.ext ?_ (by go_size) _ _) | (with_reducible refine Below.alloc ?_ (by go_size) _) | (with_reducible refine Below.setCell ?_ (by go_size) _) | (with_reducible refine Below.drew ?_) | (with_reducible refine Below.drewN_ ?_ _)))⟩
  · have hp : pd xs off = (0, false) := by
      rw [pd]
      split
      · rename_i h
        rw [pdN, if_neg]
        intro h2
        exact hin (by omega)
      · rfl
    have hR : inR off 0 ((xs.length : Int) - 4) = false := inR_not hin
    have HP := Lib.hid hp
    clear hx hb hp
    by_cases hneg : off < 0
    · go_enter Try.func8, Try.ntmps8
      go_wp2
      go_ret2
      exact ⟨ret_pd HP.out, (by repeat (first | (with_reducible exact Below.refl _ _) | (with_reducible refine Below.ext ?_ (by go_size) _ _) | (with_reducible refine Below.alloc ?_ (by go_size) _) | (with_reducible refine Below.setCell ?_ (by go_size) _) | (with_reducible refine Below.drew ?_) | (with_reducible refine Below.drewN_ ?_ _)))⟩
    · have hgt : (xs.length : Int) - 4 < off := by omega
      go_enter Try.func8, Try.ntmps8
      go_wp2
      go_ret2
      exact ⟨ret_pd HP.out, (by repeat (first | (with_reducible exact Below.refl _ _) | (with_reducible refine Below.ext ?_ (by go_size) _ _) | (with_reducible refine Below.alloc ?_ (by go_size) _) | (with_reducible refine Below.setCell ?_ (by go_size) _) | (with_reducible refine Below.drew ?_) | (with_reducible refine Below.drewN_ ?_ _)))⟩
end Go.Proofs.Ytgplllomchbkdaa
