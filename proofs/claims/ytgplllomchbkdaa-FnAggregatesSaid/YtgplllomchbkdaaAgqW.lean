/- The walk of FnAggregates. -/
import Derived.Test.YtgplllomchbkdaaDamP
import Derived.Test.YtgplllomchbkdaaDrawA
import Derived.Test.YtgplllomchbkdaaSame
import Derived.Test.YtgplllomchbkdaaLawM
namespace Go.Proofs.Ytgplllomchbkdaa
open Go.RowKit
set_option linter.unusedVariables false
set_option linter.unusedSimpArgs false

def aggSz (xs : List Int) : Nat := (xs.map fun n => subN n.toNat).sum
theorem aggSz_snoc (xs : List Int) (n : Int) : aggSz (xs ++ [n]) = aggSz xs + subN n.toNat := by simp [aggSz]
theorem aggSz_take (xs : List Int) (k : Nat) (h : k < xs.length) : aggSz (xs.take (k + 1)) = aggSz (xs.take k) + subN xs[k].toNat := by
  rw [List.take_add_one, List.getElem?_eq_getElem h]; exact aggSz_snoc _ _
theorem aggSz_le (xs : List Int) (h : ∀ x ∈ xs, 0 ≤ x ∧ x ≤ 200) : aggSz xs ≤ 300 * xs.length := by
  induction xs with
  | nil => simp [aggSz]
  | cons x xs ih =>
    have h1 := ih (fun y hy => h y (by simp [hy]))
    have h2 := h x (by simp)
    have h3 : subN x.toNat ≤ 300 := by unfold subN; omega
    simp [aggSz] at h1 ⊢
    omega
def lensI (fs : List (List Int)) : List Int := fs.map fun f => (f.length : Int)
theorem sz_flat (fs : List (List Int)) (h : ∀ f ∈ fs, f.length ≤ 200) : aggSz (lensI fs) = ((fs.map subF).flatten).length := by
  induction fs with
  | nil => rfl
  | cons f fs ih =>
    have h1 := ih (fun g hg => h g (by simp [hg]))
    have h2 := subF_len (h f (by simp))
    simp only [lensI, aggSz, List.map_cons, List.sum_cons, List.flatten_cons, List.length_append, Int.toNat_natCast] at h1 ⊢
    omega
theorem sz_agg {fs : List (List Int)} (h8 : fs.length ≤ 8) (h : ∀ f ∈ fs, f.length ≤ 200) : aggSz (lensI fs) = (agg fs).length := by
  have hfit : fitB fs = true := fit_true h8 (fun j hj => h _ (List.getElem_mem hj))
  rw [sz_flat fs h, agg, if_pos hfit, aggL_flat h]
theorem agg_mod {fs : List (List Int)} (h8 : fs.length ≤ 8) (h : ∀ f ∈ fs, f.length ≤ 200) : (agg fs).length % 4 = 0 := by
  rw [← sz_agg h8 h]
  have : ∀ xs : List Int, aggSz xs % 4 = 0 := by
    intro xs
    induction xs with
    | nil => rfl
    | cons x xs ih => simp [aggSz, subN] at ih ⊢; omega
  exact this _
theorem lens_take (fs : List (List Int)) (k : Nat) (h : k < fs.length) : lensI (fs.take (k + 1)) = lensI (fs.take k) ++ [(fs[k].length : Int)] := by
  have htk : fs.take (k + 1) = fs.take k ++ [fs[k]] := by rw [List.take_add_one, List.getElem?_eq_getElem h]; rfl
  unfold lensI
  rw [htk, List.map_append]
  rfl
theorem sz_step {fs : List (List Int)} {k : Nat} (hk : k < fs.length) (h8 : fs.length ≤ 8) (h : ∀ f ∈ fs, f.length ≤ 200) : aggSz (lensI (fs.take k)) + subN fs[k].length ≤ (agg fs).length := by
  have h1 := flat_take_succ fs k hk
  have h2 := sz_flat (fs.take k) (fun f hf => h f (List.mem_of_mem_take hf))
  have h3 := flat_at hk
  have hfit : fitB fs = true := fit_true h8 (fun j hj => h _ (List.getElem_mem hj))
  rw [agg, if_pos hfit, aggL_flat h, h3, h2]
  simp only [List.length_append, subF_len (h _ (List.getElem_mem hk))]
  omega
theorem pd_dlm {n : Int} (h0 : 0 ≤ n) (h1 : n ≤ 200) : pd (dlm n) 0 = (n, true) := by
  obtain ⟨m, rfl⟩ := Int.eq_ofNat_of_zero_le h0
  have := pdS_sub (f := List.replicate m 0) (post := []) (by simp; omega)
  rw [pd, if_pos (by omega)]
  show pdN _ 0 = _
  rw [pdN_drop, List.drop_zero, pdS, dlm_4 (by omega)]
  simp only [List.length_cons, List.length_nil, List.getD_cons_zero, List.getD_cons_succ, List.take_succ_cons, List.take_zero, Int.mul_zero, Int.add_zero]
  rw [dlm_4 (by omega), if_pos ⟨by omega, rfl⟩]
theorem infoI : (Try.prog.info? 3).map (fun i => (i.zero, i.size, i.bytes)) = some (some (.int .i64 0), 1, 8) := by kernel_rfl

set_option maxHeartbeats 1000000 in
theorem aggSz_any {u : Bool} {T : Nat → Prop} (A : Option Addr) (c : Nat) (xs : List Int) (w : World) (hx : Rw u .i64 w T A xs) (hm : xs.length ≤ 1000) (hb : ∀ x ∈ xs, 0 ≤ x ∧ x ≤ 200) :
    Calls Try.prog 27 #[.slice A xs.length c] w fun e w' => e = .returned (.int .i64 (aggSz xs : Nat)) ∧ w = w' := by
  have HX := Lib.hid hx
  have HB := Lib.hid hb
  clear hx hb
  go_enter Try.func27, Try.ntmps27
  go_wp2
  go_loop [3, 8] (fun v p => ∃ k : Nat, k ≤ xs.length ∧ p = .int .i64 (k : Int) ∧ v = .int .i64 (aggSz (xs.take k) : Nat)) (fun _ p => xs.length - (intOf p).toNat)
  case atStart => exact ⟨0, Nat.zero_le _, rfl, rfl⟩
  case round =>
    obtain ⟨k, hk, rfl, rfl⟩ := hrel
    by_cases hlt : k < xs.length
    · obtain ⟨g, o, rfl, _, _, hc, _⟩ := HX.out k hlt
      have hlt2 : (k : Int) < (xs.length : Int) := by omega
      have hbx := HB.out _ (List.getElem_mem hlt)
      have hle := aggSz_le (xs.take k) (fun x hx => HB.out x (List.mem_of_mem_take hx))
      have hst := aggSz_take xs k hlt
      rw [List.length_take] at hle
      have hle2 : aggSz (xs.take k) ≤ 300000 := by omega
      have HST := Lib.hid hst
      clear hst hle
      generalize xs[k] = x at *
      obtain ⟨hx0, hx1⟩ := hbx
      obtain ⟨n, rfl⟩ := Int.eq_ofNat_of_zero_le hx0
      have hsn : subN n ≤ 300 := by unfold subN; omega
      go_wp2_with (go_at_call 15; refine (implSub_any n _ (by omega)).mono ?_; rintro e w' ⟨rfl, rfl⟩)
      go_round
      case rel => exact ⟨k + 1, by omega, by go_num, by rw [HST.out, Int.toNat_natCast]; go_num⟩
      case measure => simp [intOf]; omega
    · obtain rfl : k = xs.length := by omega
      rw [List.take_length]
      go_wp2
      go_ret
      exact ⟨rfl, rfl⟩
set_option maxHeartbeats 1000000 in
theorem fits_any {u : Bool} {T : Nat → Prop} (A : Option Addr) (c n lim : Nat) (xs : List Int) (w : World) (hx : Rw u .i64 w T A xs) (hm : xs.length < 8) (hb : ∀ x ∈ xs, 0 ≤ x ∧ x ≤ 200) (hn : n ≤ 200) (hl : aggSz xs + subN n ≤ lim) :
    Calls Try.prog 26 #[.slice A xs.length c, .int .i64 (n : Int), .int .i64 (lim : Int)] w fun e w' => e = .returned (.bool true) ∧ w = w' := by
  have hle := aggSz_le xs hb
  have h1 : inR (n : Int) 0 200 = true := inR_of (by omega)
  have h2 : (xs.length : Int) < 8 := by omega
  have hsn : subN n ≤ 300 := by unfold subN; omega
  have hl2 : (aggSz xs : Int) + (subN n : Int) ≤ (lim : Int) := by omega
  have hle2 : aggSz xs ≤ 2400 := by omega
  have HX := Lib.hid hx
  have HB := Lib.hid hb
  clear hx hb hle
  go_enter Try.func26, Try.ntmps26
  go_wp2_with (first | (go_at_call 34; refine (inRange_any _ _ _ _).mono ?_; rintro e w' ⟨rfl, rfl⟩) | (go_at_call 27; refine (aggSz_any _ _ _ _ HX.out (by omega) HB.out).mono ?_; rintro e w' ⟨rfl, rfl⟩) | (go_at_call 15; refine (implSub_any n _ hn).mono ?_; rintro e w' ⟨rfl, rfl⟩))
  go_ret
  exact ⟨by try simp, rfl⟩
theorem fits_q {u : Bool} {T : Nat → Prop} (A : Option Addr) (c n lim : Nat) (xs : List Int) (w : World) (hx : Rw u .i64 w T A xs) (hm : xs.length < 8) (hb : ∀ x ∈ xs, 0 ≤ x ∧ x ≤ 200) (hn : n ≤ 200) (hl : aggSz xs + subN n ≤ lim) :
    Calls Try.prog 26 #[.slice A xs.length c, .int .i64 (n : Int), .int .i64 (lim : Int)] w fun e w' => e = .returned (.bool true) ∧ w' = w :=
  (fits_any A c n lim xs w hx hm hb hn hl).mono fun _ _ ⟨a, b⟩ => ⟨a, b.symm⟩
theorem aggSz_q {u : Bool} {T : Nat → Prop} (A : Option Addr) (c : Nat) (xs : List Int) (w : World) (hx : Rw u .i64 w T A xs) (hm : xs.length ≤ 1000) (hb : ∀ x ∈ xs, 0 ≤ x ∧ x ≤ 200) :
    Calls Try.prog 27 #[.slice A xs.length c] w fun e w' => e = .returned (.int .i64 (aggSz xs : Nat)) ∧ w' = w :=
  (aggSz_any A c xs w hx hm hb).mono fun _ _ ⟨a, b⟩ => ⟨a, b.symm⟩
theorem sub_q (n : Nat) (w : World) (hn : n ≤ 200) : Calls Try.prog 15 #[.int .i64 (n : Int)] w fun e w' => e = .returned (.int .i64 (subN n : Nat)) ∧ w' = w :=
  (implSub_any n w hn).mono fun _ _ ⟨a, b⟩ => ⟨a, b.symm⟩
theorem implAgg_o {T : Nat → Prop} (A : Option Addr) (c : Nat) (fs : List (List Int)) (w : World) (hx : Sl false 1 (EB false) w T A fs) (hm : fs.length ≤ 1000000000000) (hmx : ∀ x ∈ fs, x.length ≤ 1000000000000) :
    Calls Try.prog 14 #[.slice A fs.length c] w fun e w' => ∃ g c, e = .returned (.slice (some ⟨g, 0, none⟩) (agg fs).length c) ∧ Below w.heap.size w w' ∧ OwR (Value.int .u8) 5 w' w.heap.size g c (agg fs) :=
  (implAgg_any A c fs w hx hm hmx).mono fun _ _ h => h.owr
theorem sameLists_o {T1 T2 : Nat → Prop} (A B : Option Addr) (c1 c2 : Nat) (xs ys : List (List Int)) (he : xs = ys) (w : World) (hx : Sl false 1 (EB false) w T1 A xs) (hy : Sl false 1 (EB false) w T2 B ys) (hm : xs.length ≤ 1000000000000) (hmx : ∀ x ∈ xs, x.length ≤ 1000000000000) :
    Calls Try.prog 16 #[.slice A xs.length c1, .slice B ys.length c2] w fun e w' => e = .returned (.bool true) ∧ Below w.heap.size w w' := by
  subst he
  exact (sameLists_q A B c1 c2 xs xs w hx hy hm hm hmx hmx).mono fun _ _ ⟨h1, h2⟩ => ⟨by rw [h1]; simp, h2.below⟩

set_option maxRecDepth 8000 in
set_option maxHeartbeats 1000000 in
theorem aggregates_walk (A : Option Addr) (c : Nat) (xs : List Int) (w : World) (hx : Rw false .u8 w (fun g => g < w.heap.size) A xs) (hlen : xs.length ≤ 9223372036854775807) (hb : ∀ x ∈ xs, 0 ≤ x ∧ x ≤ 255) :
    Calls Try.prog 6 #[.slice A xs.length c] w fun e w' => e = .returned (.bool true) ∧ Below w.heap.size w w' := by
  obtain ⟨i0, hi, hz0, hz1, hz2⟩ := info_parts infoI
  by_cases hbig : 1048576 < xs.length
  · have HBG : Hid (bigB xs.length = true) := Lib.hid (by simp [bigB, hbig])
    clear hx hb
    go_enter Try.func6, Try.ntmps6
    go_wp2_with (first | (go_at_call 12; refine (big_any _ _ _ _).mono ?_; rw [HBG.out]; rintro e w' ⟨rfl, rfl⟩))
    go_ret
    exact ⟨rfl, Below.refl _ _⟩
  have HBG : Hid (bigB xs.length = false) := Lib.hid (by simp [bigB, hbig])
  have HX := Lib.hid hx
  have HB := Lib.hid hb
  have ha := atV_le hb 0
  generalize hA : atV xs 0 = a0 at ha
  have HA := Lib.hid hA
  obtain ⟨ha0, ha1⟩ := ha
  clear hx hlen hb hA
  go_enter Try.func6, Try.ntmps6
  go_wp2_with (first | (go_at_call 12; refine (big_any _ _ _ _).mono ?_; rw [HBG.out]; rintro e w' ⟨rfl, rfl⟩))
  refine (drawSub_any A c xs _ HX.out (by omega) HB.out).mono ?_
  rintro e w1 ⟨go, co, fs, rfl, hf5, hF, ho, hb1⟩
  have HB1 := Lib.hid hb1
  have hs1 := hb1.size
  have hF200 : ∀ f ∈ fs, f.length ≤ 200 := fun f hf => by have := (hF f hf).1; omega
  have HM : Hid (∀ x ∈ fs, x.length ≤ 1000000000000) := Lib.hid (fun x h => by have := hF200 x h; omega)
  have H200 := Lib.hid hF200
  have HUB := Lib.hid (agg_ub fs (fun f hf => (hF f hf).2))
  have HS1 := Lib.hid ho.sl
  have hgo := ho.lt
  have HSPL : Hid (split (agg fs) = fs) := Lib.hid (split_agg (by omega) hF200)
  have HSZ : Hid (aggSz (lensI fs) = (agg fs).length) := Lib.hid (sz_agg (by omega) hF200)
  have hmod := agg_mod (by omega) hF200
  have HSTEP : Hid (∀ k (hk : k < fs.length), aggSz (lensI (fs.take k)) + subN fs[k].length ≤ (agg fs).length) := Lib.hid (fun k hk => sz_step hk (by omega) hF200)
  have hagl := agg_len fs
  clear hb1 hF ho hF200
  go_wp2_with fail
  refine (implAgg_o _ _ fs _ (SlB.read HS1.out) (by omega) HM.out).mono ?_
  rintro e w2 ⟨gb, cb, rfl, hb2, ob⟩
  have hs2 := hb2.size
  have HB2 := Lib.hid (HB1.out.trans (hb2.mono hs1))
  have HS2 := Lib.hid (Sl.below (R := EB true) EB.framed HS1.out hb2)
  have RB := Lib.hid ob.rwF.rw
  have hgb := ob.lt
  have hgbe := ob.ge
  have hbc := ob.le_cap
  clear hb2 ob HS1
  generalize agg fs = bs at *
  go_wp2
  go_loopw [5, 6] (fun v p wr => ∃ (k g6 c6 : Nat) (ls : List Int), p = .int .i64 (k : Int) ∧ k ≤ fs.length ∧ v = .slice (some ⟨g6, 0, none⟩) ls.length c6 ∧ Hid (ls = lensI (fs.take k)) ∧ Hid (Below w2.heap.size w2 wr) ∧ Hid (OwR (Value.int .i64) 3 wr w2.heap.size g6 c6 ls)) (fun _ p _ => fs.length - (intOf p).toNat)
  case atStart => exact ⟨0, w2.heap.size, 0, [], rfl, Nat.zero_le _, rfl, Lib.hid rfl, Lib.hid ((Below.refl _ _).alloc (Nat.le_refl _) _), Lib.hid (OwR.new (Nat.le_refl _) (World.heap_new _ _ _ rfl))⟩
  case round =>
    obtain ⟨k, g6, c6, ls, rfl, hk, rfl, HL, HBr, HO⟩ := hrel
    have hll : ls.length = k := by rw [HL.out]; simp [lensI]; omega
    have HLB : Hid (∀ x ∈ ls, 0 ≤ x ∧ x ≤ 200) := Lib.hid (by
      rw [HL.out]
      intro x hx
      simp only [lensI, List.mem_map] at hx
      obtain ⟨f, hf, rfl⟩ := hx
      have := H200.out f (List.mem_of_mem_take hf)
      omega)
    have hls5 : ls.length ≤ 5 := by omega
    have HLL := Lib.hid hll
    clear hll
    have hwr := HBr.out.size
    by_cases hlt : k < fs.length
    · obtain ⟨g1, o1, F1, hA1, hg1, ⟨B1, d1, hc1, _, hr1⟩, _, _⟩ := Sl.at_ HS2.out k hlt
      injection hA1 with hA1
      injection hA1 with e1 e2
      subst e1 e2
      rw [Nat.mul_one, Nat.zero_add] at hc1
      have hc2 : wr.cell? ⟨go, k, none⟩ = some (.slice B1 fs[k].length d1) := (HBr.out.cell (p := ⟨go, k, none⟩) hg1).trans hc1
      have hst := HSTEP.out k hlt
      have hlt2 : (k : Int) < (fs.length : Int) := by omega
      have hx2 := H200.out _ (List.getElem_mem hlt)
      have hltk := lens_take fs k hlt
      rw [← HL.out] at hst hltk
      have HTK := Lib.hid hltk
      have RL := Lib.hid HO.out.rwF.rw
      have hge6 := HO.out.ge
      clear hr1 hc1 hltk
      generalize fs[k] = x at *
      have hsn : subN x.length ≤ 300 := by unfold subN; omega
      have hsz2 : aggSz ls ≤ 1656 := by omega
      have hsum : IntKind.i64.wrap ((aggSz ls : Int) + (subN x.length : Int)) = (aggSz ls : Int) + (subN x.length : Int) := by rw [IntKind.wrap_i64]; omega
      have hle3 : (aggSz ls : Int) + (subN x.length : Int) ≤ (bs.length : Int) := by omega
      go_wp2
      go_quiet ((first | (go_at_call 26; exact Calls.quiet_of_same (fits_q _ _ x.length bs.length ls _ (RL.out.below (Dr.below (Dr.mk _ _))) (by omega) HLB.out hx2 hst)) | (go_at_call 27; exact Calls.quiet_of_same (aggSz_q _ _ ls _ (RL.out.below (Dr.below (Dr.mk _ _))) (by omega) HLB.out)) | (go_at_call 15; exact Calls.quiet_of_same (sub_q x.length _ hx2))))
      clear hsum hle3
      go_wp2_with (at_builtin; refine wpList_appR rfl (.tmp 44) (.tmp 50) 38 rfl 3 i0 (.int .i64 0) 8 Try.underlying38 hi hz0 hz1 hz2 rfl w2.heap.size _ _ _ rfl ((HO.out.keep (w' := wr.drewN nq) rfl).below ((Below.refl _ _).alloc (Nat.le_refl _) _)) _ [(x.length : Int)] _ (fun _ _ => rfl) rfl (rwF_alloc1 (f := Value.int .i64) (by simp)) (by first | omega | (simp; done) | (simp; omega)) (by decide) (by first | omega | (simp; done) | (simp; omega)) ?_)
      intro g7 c7 w7 ls' HQ HO7 HG HC7
      have HB7 : Hid (Below w2.heap.size w2 w7) := Lib.hid ((Below.alloc (Below.drewN_ HBr.out _) (by simpa using hwr) _).trans (HC7.out.below (by simp; omega) (fun b hb => by omega)))
      have HL7 : Hid (ls' = lensI (fs.take (k + 1))) := Lib.hid (by rw [HQ.out, HTK.out])
      clear HQ HG HC7 HO HBr
      go_wp2
      go_roundw
      case rel => exact ⟨k + 1, g7, c7, ls', by go_num, by omega, rfl, HL7, HB7, HO7⟩
      case measure => simp [intOf]; omega
    · obtain rfl : k = fs.length := by omega
      have HL2 : Hid (ls = lensI fs) := Lib.hid (by rw [HL.out, List.take_length])
      have hsz : aggSz ls = bs.length := by rw [HL2.out]; exact HSZ.out
      have HSZ2 := Lib.hid hsz
      have RL := Lib.hid HO.out.rwF.rw
      have RX := Lib.hid ((HX.out.below HB2.out).below (HBr.out.mono (by have := HB2.out.size; omega)) )
      have RBr := Lib.hid (RB.out.below HBr.out)
      have HSr := Lib.hid (Sl.below (R := EB true) EB.framed HS2.out HBr.out)
      have HBW := Lib.hid (HB2.out.trans (HBr.out.mono HB2.out.size))
      have hmod2 : (bs.length : Int) % 4 = 0 := by omega
      have hn0 : 0 ≤ a0 % 201 := by omega
      have hn1 : a0 % 201 ≤ 200 := by omega
      have HPD := Lib.hid (pd_dlm hn0 hn1)
      have HDL := Lib.hid (dlm_len (a0 % 201))
      clear HO HBr HS2 RB hsz HL
      go_wp2_with fail
      refine (at_any A c xs 0 _ RX.out (by omega) HB.out (by omega)).mono ?_
      rw [HA.out]
      rintro e w' ⟨rfl, rfl⟩
      go_wp2_with fail
      refine (implDlm_any _ _).mono ?_
      intro e w3 hnew
      obtain ⟨g3, c3, rfl, hb3, ho3⟩ := hnew.owr
      have HB3 := Lib.hid (HBW.out.trans (hb3.mono HBW.out.size))
      have RD := Lib.hid ho3.rwF.rw
      have hdc := ho3.le_cap
      have hdl : (dlm (a0 % 201)).length ≤ 4 := HDL.out
      replace RX := Lib.hid (RX.out.below hb3)
      replace RL := Lib.hid (RL.out.below hb3)
      replace RBr := Lib.hid (RBr.out.below hb3)
      replace HSr := Lib.hid (Sl.below (R := EB true) EB.framed HSr.out hb3)
      clear hb3 ho3 hnew
      go_wp2_with fail
      refine (implPd_any _ _ (dlm (a0 % 201)) 0 _ RD.out (by omega) hdc (dlm_ub _) (by constructor <;> omega)).mono ?_
      rw [HPD.out]
      rintro e w4 ⟨rfl, hb4⟩
      have HB4 := Lib.hid (HB3.out.trans (hb4.mono HB3.out.size))
      replace RX := Lib.hid (RX.out.below hb4)
      replace RL := Lib.hid (RL.out.below hb4)
      replace RBr := Lib.hid (RBr.out.below hb4)
      replace HSr := Lib.hid (Sl.below (R := EB true) EB.framed HSr.out hb4)
      clear hb4 RD
      go_wp2_with fail
      refine (implSpl_any _ cb bs _ RBr.out (by omega) hbc HUB.out).mono ?_
      rintro e w5 ⟨g5, c5, rfl, hb5, ho5⟩
      have HB5 := Lib.hid (HB4.out.trans (hb5.mono HB4.out.size))
      have S5 := Lib.hid (SlB.read ho5.sl)
      have HL8 := Lib.hid (split_len bs)
      have HM8 := Lib.hid (split_mem bs)
      replace RX := Lib.hid (RX.out.below hb5)
      replace RL := Lib.hid (RL.out.below hb5)
      replace HSr := Lib.hid (Sl.below (R := EB true) EB.framed HSr.out hb5)
      clear hb5 ho5 RBr
      go_wp2_with fail
      refine (sameLists_o _ _ _ _ _ _ HSPL.out _ S5.out (SlB.read HSr.out) (by have := HL8.out; omega) (fun x hx => by have := HM8.out x hx; omega)).mono ?_
      rintro e w6 ⟨rfl, hb6⟩
      have HB6 := Lib.hid (HB5.out.trans (hb6.mono HB5.out.size))
      replace RX := Lib.hid (RX.out.below hb6)
      replace RL := Lib.hid (RL.out.below hb6)
      clear hb6 S5 HSr
      go_wp2_with fail
      refine (aggSz_any _ _ ls _ RL.out (by omega) HLB.out).mono ?_
      rw [HSZ2.out]
      rintro e w' ⟨rfl, rfl⟩
      go_wp2_with fail
      refine (at_any A c xs 0 _ RX.out (by omega) HB.out (by omega)).mono ?_
      rw [HA.out]
      rintro e w' ⟨rfl, rfl⟩
      go_wp2
      go_ret
      exact ⟨rfl, HB6.out⟩

end Go.Proofs.Ytgplllomchbkdaa
