/- The walk of FnRateAdaptation. -/
import Derived.Test.YtkjkhlncdopndaaRateP
import Derived.Test.YtkjkhlncdopndaaDrawQ
import Derived.Deep.RegionHeld3
import Derived.Deep.DeepCutAuto
namespace Go.Proofs.Ytkjkhlncdopndaa
open Go.RowKit
set_option linter.unusedVariables false
set_option linter.unusedSimpArgs false
section
variable {P : Program} {ops : Array Oper} {Q : Exit → Act → World → Prop} {md : Region.Mode} {S : World → Prop}
theorem wpAnyH_takeW {i : Nat} {oi : Oper} {v : Value} {fuel : Nat} {listed : Array Bool} {a : Act} {w : World} {d : Option Tmp} (hi : ops[i]? = some oi) (hd : oi.dst = d)
    (hs : Region.noSelect ops = true) (hf : Region.free md ops listed i = true) (hr : (Region.ready md ops listed).contains i = true)
    (hQ : ∀ c a w, Q (.panic c) (a.put d v) w → Q (.panic c) a w) (hw : Region.wanted oi (yielded ops a.tmps) = true) (hv : ∀ w, S w → (execOp a.eval oi).run P w = .ok (.value v) w) (hS : S w)
    (h : wpAnyH P md ops Q S fuel (listed.setIfInBounds i true) (a.put d v) w) : wpAnyH P md ops Q S (fuel + 1) listed a w := by
  subst hd
  exact wpAnyH_take hi hs hf hr hQ (.inl ⟨hw, hv⟩) hS h
theorem wpAnyH_takeU {i : Nat} {oi : Oper} {fuel : Nat} {listed : Array Bool} {a : Act} {w : World} {d : Option Tmp} (hi : ops[i]? = some oi) (hd : oi.dst = d)
    (hs : Region.noSelect ops = true) (hf : Region.free md ops listed i = true) (hr : (Region.ready md ops listed).contains i = true)
    (hQ : ∀ c a w, Q (.panic c) (a.put d undef) w → Q (.panic c) a w) (hw : Region.wanted oi (yielded ops a.tmps) = false) (hS : S w)
    (h : wpAnyH P md ops Q S fuel (listed.setIfInBounds i true) (a.put d undef) w) : wpAnyH P md ops Q S (fuel + 1) listed a w := by
  subst hd
  exact wpAnyH_take hi hs hf hr hQ (.inr ⟨hw, rfl⟩) hS h
end

theorem sucL {r go b th : Int} {pr : Bool} {r' go' b' th' : Int} {pr' : Bool} (h : sSucc ⟨r, go, b, th, pr⟩ = ⟨r', go', b', th', pr'⟩) (w : World) : Calls Try.prog 17 #[.agg #[.int .i64 r, .int .i64 go, .int .i64 b, .int .i64 th, .bool pr]] w fun e w' => e = .returned (.agg #[.int .i64 r', .int .i64 go', .int .i64 b', .int .i64 th', .bool pr']) ∧ Below w.heap.size w w' :=
  (implSucc_any ⟨r, go, b, th, pr⟩ w).mono fun e w' ⟨h1, h2⟩ => ⟨by rw [h1, h], h2⟩
theorem faiL {r go b th : Int} {pr : Bool} {r' go' b' th' : Int} {pr' : Bool} (h : sFail ⟨r, go, b, th, pr⟩ = ⟨r', go', b', th', pr'⟩) (w : World) : Calls Try.prog 19 #[.agg #[.int .i64 r, .int .i64 go, .int .i64 b, .int .i64 th, .bool pr]] w fun e w' => e = .returned (.agg #[.int .i64 r', .int .i64 go', .int .i64 b', .int .i64 th', .bool pr']) ∧ Below w.heap.size w w' :=
  (implFail_any ⟨r, go, b, th, pr⟩ w).mono fun e w' ⟨h1, h2⟩ => ⟨by rw [h1, h], h2⟩
theorem valL {r go b th : Int} {pr q : Bool} (h : vRate r go b th pr = q) (w : World) : Calls Try.prog 15 #[.agg #[.int .i64 r, .int .i64 go, .int .i64 b, .int .i64 th, .bool pr]] w fun e w' => e = .returned (.bool q) ∧ Below w.heap.size w w' :=
  (implVR_any r go b th pr w).mono fun e w' ⟨h1, h2⟩ => ⟨by rw [h1, h], h2⟩
theorem valS {r go b th : Int} {pr q : Bool} (h : vRate r go b th pr = q) (w : World) : Calls Try.prog 13 #[.agg #[.int .i64 r, .int .i64 go, .int .i64 b, .int .i64 th, .bool pr]] w fun e w' => e = .returned (.bool q) ∧ Below w.heap.size w w' :=
  (specVR_any r go b th pr w).mono fun e w' ⟨h1, h2⟩ => ⟨by rw [h1, h], h2⟩
theorem appL {r go b th : Int} {pr : Bool} {r' go' b' th' : Int} {pr' : Bool} {u : Bool} {T : Nat → Prop} {A : Option Addr} {n c : Nat} {xs : List Bool} (h : sApply ⟨r, go, b, th, pr⟩ xs = ⟨r', go', b', th', pr'⟩) (hn : n = xs.length) (w : World) (hx : RwF Value.bool u w T A xs) (hm : xs.length ≤ 1000000000000) : Calls Try.prog 31 #[.agg #[.int .i64 r, .int .i64 go, .int .i64 b, .int .i64 th, .bool pr], .slice A n c] w fun e w' => e = .returned (.agg #[.int .i64 r', .int .i64 go', .int .i64 b', .int .i64 th', .bool pr']) ∧ Below w.heap.size w w' := by
  subst hn
  exact (implApply_any ⟨r, go, b, th, pr⟩ A c xs w hx hm).mono fun e w' ⟨h1, h2⟩ => ⟨by rw [h1, h], h2⟩

theorem row_new (w : World) (t : TypeId) (cur : Array Value) (xs : List Bool) (n : Nat) (hn : n = w.heap.size) (hs : ∀ k (h : k < xs.length), cur[k]? = some (Value.bool xs[k])) : RwF Value.bool true (w.alloc (.cells cur t)) (fun _ => True) (some ⟨n, 0, none⟩) xs := by
  subst hn
  exact (RwF.of_alloc w t cur xs hs).wider (fun _ _ => trivial)
theorem row_tf : ∀ k (h : k < [true, false].length), (#[Value.bool true, .bool false] : Array Value)[k]? = some (Value.bool [true, false][k]) := by
  intro k hk
  match k, hk with
  | 0, _ => rfl
  | 1, _ => rfl
theorem World.ext_one (w : World) (o : Obj) : World.ext w [o] w.drawn = w.alloc o := by
  simp only [World.ext, World.alloc, World.mk.injEq, and_true]
  apply Array.ext'
  simp

set_option maxRecDepth 8000 in
set_option maxHeartbeats 8000000 in
theorem rateAdaptation_walk (A : Option Addr) (c : Nat) (xs : List Int) (w : World) (hx : Rw false .u8 w (fun g => g < w.heap.size) A xs) (hlen : xs.length ≤ 9223372036854775807) (hb : ∀ x ∈ xs, 0 ≤ x ∧ x ≤ 255) :
    Calls Try.prog 9 #[.slice A xs.length c] w fun e w' => e = .returned (.bool true) ∧ Below w.heap.size w w' := by
  by_cases hbig : 1048576 < xs.length
  · have HBG : Hid (bigB xs.length = true) := Lib.hid (by simp [bigB, hbig])
    clear hx hb
    go_enter Try.func9, Try.ntmps9
    go_wp2_with (first | (go_at_call 20; refine (big_any _ _ _ _).mono ?_; rw [HBG.out]; rintro e w' ⟨rfl, rfl⟩))
    go_ret
    exact ⟨rfl, (by repeat (first | (with_reducible exact Below.refl _ _) | (with_reducible refine Below.ext ?_ (by go_size) _ _) | (with_reducible refine Below.alloc ?_ (by go_size) _) | (with_reducible refine Below.setCell ?_ (by go_size) _) | (with_reducible refine Below.drew ?_) | (with_reducible refine Below.drewN_ ?_ _)))⟩
  have HBG : Hid (bigB xs.length = false) := Lib.hid (by simp [bigB, hbig])
  have HX := Lib.hid hx
  have HB := Lib.hid hb
  clear hx hlen hb
  go_enter Try.func9, Try.ntmps9
  go_wp2_with (first | (go_at_call 20; refine (big_any _ _ _ _).mono ?_; rw [HBG.out]; rintro e w' ⟨rfl, rfl⟩))
  refine (drawSuc_any A c xs _ HX.out (by omega) HB.out).mono ?_
  rintro e w1 ⟨r, go, b, th, pr, rfl, hb1⟩
  obtain ⟨X1, d1, rfl⟩ := Below.ext_ hb1
  clear hb1
  cases hv : vRate r go b th pr
  · have HS : Hid (sSucc ⟨r, go, b, th, pr⟩ = ⟨r, go, b, th, pr⟩) := Lib.hid (succ_not hv)
    have HF : Hid (sFail ⟨r, go, b, th, pr⟩ = ⟨r, go, b, th, pr⟩) := Lib.hid (fail_not hv)
    have HV := Lib.hid hv
    clear hv
    go_wp2_with (first | (go_at_call 17; refine (sucL HS.out _).mono ?_; rintro e w' ⟨rfl, hbw⟩; obtain ⟨X, d, rfl⟩ := Below.ext_ hbw; clear hbw) | (go_at_call 19; refine (faiL HF.out _).mono ?_; rintro e w' ⟨rfl, hbw⟩; obtain ⟨X, d, rfl⟩ := Below.ext_ hbw; clear hbw) | (go_at_call 15; refine (valL HV.out _).mono ?_; rintro e w' ⟨rfl, hbw⟩; obtain ⟨X, d, rfl⟩ := Below.ext_ hbw; clear hbw) | (go_at_call 13; refine (valS HV.out _).mono ?_; rintro e w' ⟨rfl, hbw⟩; obtain ⟨X, d, rfl⟩ := Below.ext_ hbw; clear hbw))
    all_goals go_ret
    all_goals exact ⟨rfl, (by repeat (first | (with_reducible exact Below.refl _ _) | (with_reducible refine Below.ext ?_ (by go_size) _ _) | (with_reducible refine Below.alloc ?_ (by go_size) _) | (with_reducible refine Below.setCell ?_ (by go_size) _) | (with_reducible refine Below.drew ?_) | (with_reducible refine Below.drewN_ ?_ _)))⟩
  · obtain ⟨a1, a2, a3, a4, a5, a6, a7, a8, a9⟩ := vRate_true hv
    have uv := succ_v (s := ⟨r, go, b, th, pr⟩) hv
    have dv := fail_v (s := ⟨r, go, b, th, pr⟩) hv
    have sr := succ_r (s := ⟨r, go, b, th, pr⟩) hv
    have fr := fail_r (s := ⟨r, go, b, th, pr⟩) hv
    cases hu : sSucc ⟨r, go, b, th, pr⟩ with
    | mk ur ugo ub uth upr =>
    cases hf : sFail ⟨r, go, b, th, pr⟩ with
    | mk dr dgo db dth dpr =>
    rw [hu] at uv sr
    rw [hf] at dv fr
    have UV : Hid (vRate ur ugo ub uth upr = true) := Lib.hid uv
    have DV : Hid (vRate dr dgo db dth dpr = true) := Lib.hid dv
    have HS := Lib.hid hu
    have HF := Lib.hid hf
    have HV := Lib.hid hv
    dsimp only at sr fr
    obtain ⟨s1, s2, s3, s4⟩ := sr
    have S3 := Lib.hid s3; clear s3
    have S4 := Lib.hid s4; clear s4
    obtain ⟨f1, f2, f3⟩ := fr
    have F3 := Lib.hid f3; clear f3
    have hth : th ≤ 40 := by omega
    have n1 : ¬ ur < r := by omega
    have n2 : ¬ r + 1 < ur := by omega
    have n3 : ¬ r < dr := by omega
    have n4 : ¬ dr < r - 1 := by omega
    clear uv dv hu hf hv a1 a8 a9
    go_wp2_with fail
    refine (sucL HS.out _).mono ?_
    rintro e w' ⟨rfl, hbw⟩; obtain ⟨Xa, da, rfl⟩ := Below.ext_ hbw; clear hbw
    go_wp2_with fail
    refine (faiL HF.out _).mono ?_
    rintro e w' ⟨rfl, hbw⟩; obtain ⟨Xb, db', rfl⟩ := Below.ext_ hbw; clear hbw
    go_wp2_with fail
    refine (valS HV.out _).mono ?_
    rintro e w' ⟨rfl, hbw⟩; obtain ⟨Xc, dc, rfl⟩ := Below.ext_ hbw; clear hbw
    generalize hW : World.ext _ _ _ = W
    have hc_s : W.cell? ⟨w.heap.size + X1.length, 0, none⟩ = some (.int .i64 r) ∧ W.cell? ⟨w.heap.size + X1.length, 1, none⟩ = some (.int .i64 go) ∧ W.cell? ⟨w.heap.size + X1.length, 2, none⟩ = some (.int .i64 b) ∧ W.cell? ⟨w.heap.size + X1.length, 3, none⟩ = some (.int .i64 th) ∧ W.cell? ⟨w.heap.size + X1.length, 4, none⟩ = some (.bool pr) := by rw [← hW]; simp [go_sem]
    have hl_s : w.heap.size + X1.length < W.heap.size := by rw [← hW]; simp; try omega
    have hc_u : W.cell? ⟨w.heap.size + X1.length + 1 + Xa.length, 0, none⟩ = some (.int .i64 ur) ∧ W.cell? ⟨w.heap.size + X1.length + 1 + Xa.length, 1, none⟩ = some (.int .i64 ugo) ∧ W.cell? ⟨w.heap.size + X1.length + 1 + Xa.length, 2, none⟩ = some (.int .i64 ub) ∧ W.cell? ⟨w.heap.size + X1.length + 1 + Xa.length, 3, none⟩ = some (.int .i64 uth) ∧ W.cell? ⟨w.heap.size + X1.length + 1 + Xa.length, 4, none⟩ = some (.bool upr) := by rw [← hW]; simp [go_sem]
    have hl_u : w.heap.size + X1.length + 1 + Xa.length < W.heap.size := by rw [← hW]; simp; try omega
    have hc_d : W.cell? ⟨w.heap.size + X1.length + 1 + Xa.length + 1 + Xb.length, 0, none⟩ = some (.int .i64 dr) ∧ W.cell? ⟨w.heap.size + X1.length + 1 + Xa.length + 1 + Xb.length, 1, none⟩ = some (.int .i64 dgo) ∧ W.cell? ⟨w.heap.size + X1.length + 1 + Xa.length + 1 + Xb.length, 2, none⟩ = some (.int .i64 db) ∧ W.cell? ⟨w.heap.size + X1.length + 1 + Xa.length + 1 + Xb.length, 3, none⟩ = some (.int .i64 dth) ∧ W.cell? ⟨w.heap.size + X1.length + 1 + Xa.length + 1 + Xb.length, 4, none⟩ = some (.bool dpr) := by rw [← hW]; simp [go_sem]
    have hl_d : w.heap.size + X1.length + 1 + Xa.length + 1 + Xb.length < W.heap.size := by rw [← hW]; simp; try omega
    have HBW : Hid (Below w.heap.size w W) := Lib.hid (by rw [← hW]; exact (by repeat (first | (with_reducible exact Below.refl _ _) | (with_reducible refine Below.ext ?_ (by go_size) _ _) | (with_reducible refine Below.alloc ?_ (by go_size) _) | (with_reducible refine Below.setCell ?_ (by go_size) _) | (with_reducible refine Below.drew ?_) | (with_reducible refine Below.drewN_ ?_ _))))
    clear hW
    generalize w.heap.size + X1.length + 1 + Xa.length + 1 + Xb.length = kd at *
    generalize w.heap.size + X1.length + 1 + Xa.length = ku at *
    generalize w.heap.size + X1.length = ks at *
    obtain ⟨cs0, cs1, cs2, cs3, cs4⟩ := hc_s
    obtain ⟨cu0, cu1, cu2, cu3, cu4⟩ := hc_u
    obtain ⟨cd0, cd1, cd2, cd3, cd4⟩ := hc_d
    have hWs := HBW.out.size
    haveI := nz_of hl_s
    haveI := nz_of hl_u
    haveI := nz_of hl_d
    go_upto_region 8 with fail
    go_cut [69] (fun cc wx => cc = .bool false ∧ ∃ Y dn, wx = World.ext W Y dn)
    case first =>
      go_wp2_with (first | (go_at_call 17; refine (sucL HS.out _).mono ?_; rintro e w' ⟨rfl, hbw⟩; obtain ⟨X, d, rfl⟩ := Below.ext_ hbw; clear hbw) | (go_at_call 19; refine (faiL HF.out _).mono ?_; rintro e w' ⟨rfl, hbw⟩; obtain ⟨X, d, rfl⟩ := Below.ext_ hbw; clear hbw) | (go_at_call 15; refine (implVR_any _ _ _ _ _ _).mono ?_; (first | rw [UV.out] | rw [DV.out]); rintro e w' ⟨rfl, hbw⟩; obtain ⟨X, d, rfl⟩ := Below.ext_ hbw; clear hbw) | (go_at_call 13; refine (valS HV.out _).mono ?_; rintro e w' ⟨rfl, hbw⟩; obtain ⟨X, d, rfl⟩ := Below.ext_ hbw; clear hbw))
      go_meet
      case rel => exact ⟨by simp [n1, n2, n3, n4]; try omega, _, _, by first | (with_reducible rfl) | (simp only [wext_ext]; rfl)⟩
    case rest =>
      obtain ⟨rfl, Y, dn, rfl⟩ := hcut
      go_upto_region 10 with fail
      go_cut [120] (fun cc wx => cc = .bool false ∧ wx = World.ext W Y dn)
      case first =>
        have hkey : (th ≤ go + 1 ∧ r < ur ∧ r < 3 ∧ upr = true) ∨ (th ≤ go + 1 ∧ ¬ r < ur ∧ ¬ r < 3 ∧ upr = false) ∨ (¬ th ≤ go + 1 ∧ ¬ r < ur ∧ upr = false) := by
          have e3 := S3.out
          have e4 := S4.out
          by_cases c1 : th ≤ go + 1
          · by_cases c2 : r < 3
            · have c3 : r < ur := by simp [c1, c2] at e3; exact e3
              exact .inl ⟨c1, c3, c2, by rw [e4]; simp [c3]⟩
            · have c3 : ¬ r < ur := by simp [c1, c2] at e3; omega
              exact .inr (.inl ⟨c1, c3, c2, by rw [e4]; simp [c3]⟩)
          · have c3 : ¬ r < ur := by simp [c1] at e3; omega
            exact .inr (.inr ⟨c1, c3, by rw [e4]; simp [c3]⟩)
        have hpr : (pr = true ∧ 0 < r ∧ dr = r - 1 ∧ th ≤ dth) ∨ (pr = true ∧ ¬ 0 < r) ∨ pr = false := by
          cases hp : pr
          · exact .inr (.inr rfl)
          · by_cases h0 : 0 < r
            · exact .inl ⟨rfl, h0, F3.out hp h0⟩
            · exact .inr (.inl ⟨rfl, h0⟩)
        clear S3 S4 F3 HS HF HV UV DV
        rcases hkey with ⟨c1, c2, c5, rfl⟩ | ⟨c1, c2, c5, rfl⟩ | ⟨c1, c2, rfl⟩ <;> rcases hpr with ⟨rfl, c3, rfl, c4⟩ | ⟨rfl, c3⟩ | rfl
        all_goals
          first
            | (exfalso; omega)
            | (go_wp2; go_meet; (case rel => exact ⟨by simp [*]; try omega, rfl⟩))
      case rest =>
        obtain ⟨rfl, rfl⟩ := hcut
        have hv2 : vRate r go b th pr = true := HV.out
        cases ha1 : sApply ⟨r, go, b, th, pr⟩ (List.replicate 200 true) with
        | mk a1r a1go a1b a1th a1pr =>
        cases ha2 : sApply ⟨r, go, b, th, pr⟩ (List.replicate 20 false) with
        | mk a2r a2go a2b a2th a2pr =>
        cases ha4 : sFail ⟨ur, ugo, ub, uth, upr⟩ with
        | mk a3r a3go a3b a3th a3pr =>
        have e1 := up_200 (s := ⟨r, go, b, th, pr⟩) hv2
        have e2 := down_20 (s := ⟨r, go, b, th, pr⟩) hv2
        rw [ha1] at e1
        rw [ha2] at e2
        dsimp only at e1 e2
        subst e1 e2
        have HA1 := Lib.hid ha1
        have HA2 := Lib.hid ha2
        have HA3 : Hid (sApply ⟨r, go, b, th, pr⟩ [true, false] = ⟨a3r, a3go, a3b, a3th, a3pr⟩) := Lib.hid (by show sFail (sSucc ⟨r, go, b, th, pr⟩) = _; rw [HS.out, ha4])
        have HA4 := Lib.hid ha4
        clear hv2 ha1 ha2 ha4 n1 n2 n3 n4 hth S3 S4 F3 HS HF UV DV HV
        obtain ⟨i0, hi, hz0, hz1, hz2⟩ := info_parts infoBoolS
        have hmk : ∀ W : World, (Instr.makeSlice 41 (.int .i64 20) (.int .i64 20)).run Try.prog W = .ok (.slice (some ⟨W.heap.size, 0, none⟩) 20 20) (W.alloc (.cells (madeCells #[.bool false] (20 * 1)) 4)) := by
          intro W
          have h1 := run_make (P := Try.prog) W 41 4 i0 (.bool false) Try.underlying41 hi hz0 .i64 .i64 20 20 (by omega) (by omega) (by rw [hz2]; omega) (by omega)
          rw [hz1] at h1
          simpa [Value.cells] using h1
        have HC0 : Hid (∀ k (h : k < (List.replicate 20 false).length), (madeCells #[.bool false] (20 * 1))[k]? = some (Value.bool (List.replicate 20 false)[k])) := Lib.hid (fun k h => by rw [made_at _ _ _ (by simpa using h), List.getElem_replicate])
        generalize madeCells #[.bool false] (20 * 1) = cur0 at *
        have HI := Lib.hid hi; clear hi
        have hfa : ∀ W : World, (Instr.field 23 (.agg #[.int .i64 3, .int .i64 a1go, .int .i64 a1b, .int .i64 a1th, .bool a1pr]) 0).run Try.prog W = .ok (.int .i64 3) W := fun _ => by kernel_rfl
        have hfb : ∀ W : World, (Instr.field 23 (.agg #[.int .i64 0, .int .i64 a2go, .int .i64 a2b, .int .i64 a2th, .bool a2pr]) 0).run Try.prog W = .ok (.int .i64 0) W := fun _ => by kernel_rfl
        go_wp2
        go_loopw [6, 7] (fun v p wr => ∃ (k go c : Nat), p = .int .i64 (k : Int) ∧ k ≤ 200 ∧ v = .slice (some ⟨go, 0, none⟩) k c ∧ Hid (∃ Y dn, wr = World.ext W Y dn) ∧ Hid (wr.ownsRow W.heap.size 4 1 (.slice (some ⟨go, 0, none⟩) k c) k ((List.replicate k true).map Value.bool))) (fun _ p _ => 200 - (intOf p).toNat)
        case atStart => exact ⟨0, _, 0, rfl, by omega, rfl, ⟨Y ++ [.cells #[] 4], _, by rw [← wext_ext, World.ext_one]⟩, own_new (by simp) (World.heap_new _ _ _ (by simp))⟩
        case round =>
          obtain ⟨k, go1, c1, rfl, hk, rfl, HE, HO⟩ := hrel
          have hge := HE.out
          have hgs : W.heap.size ≤ wr.heap.size := by obtain ⟨Y1, dn1, rfl⟩ := hge; simp
          clear hge
          by_cases hlt : k < 200
          · have hlt2 : (k : Int) < 200 := by omega
            have hown := HO.out
            have hi := HI.out
            go_wp2_with (first | (at_builtin; refine wpList_append_own _ rfl _ _ 41 rfl W.heap.size 4 i0 (.bool false) 1 1 Try.underlying41 hi hz0 hz1 hz2 rfl (by decide) _ _ _ rfl (hown.alloc _) ⟨wr.heap.size, 0, none⟩ 1 1 [.bool true] rfl rfl ?f1 ?f2 ?f3 ?f4 ?f5 ?_))
            case f1 =>
              intro j u hj
              match j, hj with
              | 0, hj => simp at hj; subst hj; simp [Addr.add, go_sem]
            case f2 => intro u hu; simp at hu; subst hu; rfl
            case f3 => unfold maxLen; omega
            case f4 => omega
            case f5 => simp; omega
            · intro v' w3 hown' hgrow hnil
              obtain ⟨go', c', rfl, hgo'⟩ := own_some hown' (by intro h; simp [h, Value.ownBlock] at hnil)
              have HE3 : Hid (∃ Y dn, w3 = World.ext W Y dn) := by
                obtain ⟨Y1, dn1, rfl⟩ := HE.out
                exact Below.ext_ (((Below.ext (Below.refl _ _) (Nat.le_refl _) Y1 dn1).alloc (by simp) _).grown hgrow (by simp; omega) (by intro k hk; have := own_ge hown k hk; simpa using this))
              have HO3 : Hid (w3.ownsRow W.heap.size 4 1 (.slice (some ⟨go', 0, none⟩) (k + 1) c') (k + 1) ((List.replicate (k + 1) true).map Value.bool)) := Lib.hid (by rw [List.replicate_succ', List.map_append, List.map_replicate]; exact hown')
              clear hown hown' hgrow hnil HO HE hi
              go_wp2
              go_roundw
              case rel => exact ⟨k + 1, go', c', by go_num, by omega, rfl, HE3, HO3⟩
              case measure => simp [intOf]; omega
          · obtain rfl : k = 200 := by omega
            have hown := HO.out
            obtain ⟨Y1, dn1, rfl⟩ := HE.out
            have RT1 : RwF Value.bool false (World.ext W Y1 dn1) (fun _ => True) (some ⟨go1, 0, none⟩) (List.replicate 200 true) := bools_of_own (base := W.heap.size) (c := c1) (by simpa using hown)
            have hBW2 : Below w.heap.size w (World.ext W Y1 dn1) := Below.ext HBW.out (by omega) _ _
            have hc2 : ∀ b o, b < W.heap.size → (World.ext W Y1 dn1).cell? ⟨b, o, none⟩ = W.cell? ⟨b, o, none⟩ := fun b o h => World.cell?_ext _ _ _ _ _ h
            have hsz : W.heap.size ≤ (World.ext W Y1 dn1).heap.size := by simp
            clear HO HE hown hgs
            generalize World.ext W Y1 dn1 = W2 at *
            rw [← hc2 _ _ hl_s] at cs0 cs1 cs2 cs3 cs4
            rw [← hc2 _ _ hl_u] at cu0 cu1 cu2 cu3 cu4
            have hl_s2 : ks < W2.heap.size := by omega
            have hl_u2 : ku < W2.heap.size := by omega
            haveI := nz_of hl_s2
            haveI := nz_of hl_u2
            have RT := Lib.hid RT1
            have HBW2 := Lib.hid hBW2
            clear hc2 RT1 hBW2 HBW cd0 cd1 cd2 cd3 cd4 hl_s hl_u hl_d hWs hsz hlt hk
            go_wp2
            refine wp_region_held_drew (S := (fun w' => ∀ b o, b < W2.heap.size → w'.cell? ⟨b, o, none⟩ = W2.cell? ⟨b, o, none⟩)) (by kernel_rfl) ?_ (fun hHeld => ?_)
            · exact fun b o h => Below.cell (p := ⟨b, o, none⟩) (by repeat (first | (with_reducible exact Below.refl _ _) | (with_reducible refine Below.ext ?_ (by go_size) _ _) | (with_reducible refine Below.alloc ?_ (by go_size) _) | (with_reducible refine Below.setCell ?_ (by go_size) _) | (with_reducible refine Below.drew ?_) | (with_reducible refine Below.drewN_ ?_ _))) h
            refine wpAnyH_takeW (i := 0) (d := some 129) (v := ?_) (by simp only [List.getElem?_toArray, List.getElem?_cons_succ, List.getElem?_cons_zero]; rfl) (by rfl) (by kernel_rfl) (by kernel_rfl) (by kernel_rfl) (by intro _ _ _ h; exact h) (by rfl) ?_ (by assumption) ?_
            rotate_left 1
            · (intro w hSw; (try dsimp only at hSw); go_simp; try (with_reducible rfl))
            (try simp only [Act.put, List.setIfInBounds_toArray, List.set_cons_zero, List.set_cons_succ])
            refine wpAnyH_takeW (i := 1) (d := some 130) (v := ?_) (by simp only [List.getElem?_toArray, List.getElem?_cons_succ, List.getElem?_cons_zero]; rfl) (by rfl) (by kernel_rfl) (by kernel_rfl) (by kernel_rfl) (by intro _ _ _ h; exact h) (by rfl) ?_ (by assumption) ?_
            rotate_left 1
            · (intro w hSw; (try dsimp only at hSw); go_simp; try (with_reducible rfl))
            (try simp only [Act.put, List.setIfInBounds_toArray, List.set_cons_zero, List.set_cons_succ])
            refine wpAnyH_ready (rs := [2]) (by kernel_rfl) (by simp) ?_
            refine AllReadyH.cons (i := 2) (by simp only [List.getElem?_toArray, List.getElem?_cons_succ, List.getElem?_cons_zero]; rfl) (fun K hK => ?_) AllReadyH.nil
            go_simp
            (go_at_call 31; refine (appL (xs := List.replicate 200 true) HA1.out (by simp) _ (RT.out.below (by repeat (first | (with_reducible exact Below.refl _ _) | (with_reducible refine Below.ext ?_ (by go_size) _ _) | (with_reducible refine Below.alloc ?_ (by go_size) _) | (with_reducible refine Below.setCell ?_ (by go_size) _) | (with_reducible refine Below.drew ?_) | (with_reducible refine Below.drewN_ ?_ _)))) (by simp)).mono ?_; rintro e w' ⟨rfl, hbw⟩; obtain ⟨Xp, dp, rfl⟩ := Below.ext_ hbw; clear hbw)
            go_wp2_with fail
            refine hK.out _ _ ?_ (fun hHeld => ?_)
            · ((try dsimp only); exact fun b o h => Below.cell (p := ⟨b, o, none⟩) (by repeat (first | (with_reducible exact Below.refl _ _) | (with_reducible refine Below.ext ?_ (by go_size) _ _) | (with_reducible refine Below.alloc ?_ (by go_size) _) | (with_reducible refine Below.setCell ?_ (by go_size) _) | (with_reducible refine Below.drew ?_) | (with_reducible refine Below.drewN_ ?_ _))) h)
            clear hK K
            (try simp only [Act.put, List.setIfInBounds_toArray, List.set_cons_zero, List.set_cons_succ])
            refine wpAnyH_takeW (i := 3) (d := some 132) (v := ?_) (by simp only [List.getElem?_toArray, List.getElem?_cons_succ, List.getElem?_cons_zero]; rfl) (by rfl) (by kernel_rfl) (by kernel_rfl) (by kernel_rfl) (by intro _ _ _ h; exact h) (by rfl) ?_ (by assumption) ?_
            rotate_left 1
            · (intro w hSw; (try dsimp only at hSw); go_simp; try (with_reducible rfl))
            (try simp only [Act.put, List.setIfInBounds_toArray, List.set_cons_zero, List.set_cons_succ])
            refine wpAnyH_takeW (i := 4) (d := some 133) (v := ?_) (by simp only [List.getElem?_toArray, List.getElem?_cons_succ, List.getElem?_cons_zero]; rfl) (by rfl) (by kernel_rfl) (by kernel_rfl) (by kernel_rfl) (by intro _ _ _ h; exact h) (by rfl) ?_ (by assumption) ?_
            rotate_left 1
            · (intro w hSw; (try dsimp only at hSw); go_simp; try (with_reducible rfl))
            (try simp only [Act.put, List.setIfInBounds_toArray, List.set_cons_zero, List.set_cons_succ])
            refine wpAnyH_takeW (i := 5) (d := some 134) (v := ?_) (by simp only [List.getElem?_toArray, List.getElem?_cons_succ, List.getElem?_cons_zero]; rfl) (by rfl) (by kernel_rfl) (by kernel_rfl) (by kernel_rfl) (by intro _ _ _ h; exact h) (by rfl) ?_ (by assumption) ?_
            rotate_left 1
            · (intro w hSw; (try dsimp only at hSw); go_simp; try (with_reducible rfl))
            (try simp only [Act.put, List.setIfInBounds_toArray, List.set_cons_zero, List.set_cons_succ])
            refine wpAnyH_takeW (i := 6) (d := some 135) (v := ?_) (by simp only [List.getElem?_toArray, List.getElem?_cons_succ, List.getElem?_cons_zero]; rfl) (by rfl) (by kernel_rfl) (by kernel_rfl) (by kernel_rfl) (by intro _ _ _ h; exact h) (by rfl) ?_ (by assumption) ?_
            rotate_left 1
            · (intro w hSw; (try dsimp only at hSw); go_simp; try (with_reducible rfl))
            (try simp only [Act.put, List.setIfInBounds_toArray, List.set_cons_zero, List.set_cons_succ])
            refine wpAnyH_ready (rs := [7]) (by kernel_rfl) (by simp) ?_
            refine AllReadyH.cons (i := 7) (by simp only [List.getElem?_toArray, List.getElem?_cons_succ, List.getElem?_cons_zero]; rfl) (fun K hK => ?_) AllReadyH.nil
            go_simp
            go_wp2_with fail
            refine hK.out _ _ ?_ (fun hHeld => ?_)
            · ((try dsimp only); exact fun b o h => Below.cell (p := ⟨b, o, none⟩) (by repeat (first | (with_reducible exact Below.refl _ _) | (with_reducible refine Below.ext ?_ (by go_size) _ _) | (with_reducible refine Below.alloc ?_ (by go_size) _) | (with_reducible refine Below.setCell ?_ (by go_size) _) | (with_reducible refine Below.drew ?_) | (with_reducible refine Below.drewN_ ?_ _))) h)
            clear hK K
            (try simp only [Act.put, List.setIfInBounds_toArray, List.set_cons_zero, List.set_cons_succ])
            refine wpAnyH_ready (rs := [8]) (by kernel_rfl) (by simp) ?_
            refine AllReadyH.cons (i := 8) (by simp only [List.getElem?_toArray, List.getElem?_cons_succ, List.getElem?_cons_zero]; rfl) (fun K hK => ?_) AllReadyH.nil
            go_simp
            (go_at_call 31; refine (appL (xs := List.replicate 20 false) HA2.out (by simp) _ (row_new _ _ _ _ _ (by simp) HC0.out) (by simp)).mono ?_; rintro e w' ⟨rfl, hbw⟩; obtain ⟨Xq, dq, rfl⟩ := Below.ext_ hbw; clear hbw)
            go_wp2_with fail
            refine hK.out _ _ ?_ (fun hHeld => ?_)
            · ((try dsimp only); exact fun b o h => Below.cell (p := ⟨b, o, none⟩) (by repeat (first | (with_reducible exact Below.refl _ _) | (with_reducible refine Below.ext ?_ (by go_size) _ _) | (with_reducible refine Below.alloc ?_ (by go_size) _) | (with_reducible refine Below.setCell ?_ (by go_size) _) | (with_reducible refine Below.drew ?_) | (with_reducible refine Below.drewN_ ?_ _))) h)
            clear hK K
            (try simp only [Act.put, List.setIfInBounds_toArray, List.set_cons_zero, List.set_cons_succ])
            refine wpAnyH_takeW (i := 9) (d := some 138) (v := ?_) (by simp only [List.getElem?_toArray, List.getElem?_cons_succ, List.getElem?_cons_zero]; rfl) (by rfl) (by kernel_rfl) (by kernel_rfl) (by kernel_rfl) (by intro _ _ _ h; exact h) (by rfl) ?_ (by assumption) ?_
            rotate_left 1
            · (intro w hSw; (try dsimp only at hSw); go_simp; try (with_reducible rfl))
            (try simp only [Act.put, List.setIfInBounds_toArray, List.set_cons_zero, List.set_cons_succ])
            refine wpAnyH_takeW (i := 10) (d := some 139) (v := ?_) (by simp only [List.getElem?_toArray, List.getElem?_cons_succ, List.getElem?_cons_zero]; rfl) (by rfl) (by kernel_rfl) (by kernel_rfl) (by kernel_rfl) (by intro _ _ _ h; exact h) (by rfl) ?_ (by assumption) ?_
            rotate_left 1
            · (intro w hSw; (try dsimp only at hSw); go_simp; try (with_reducible rfl))
            (try simp only [Act.put, List.setIfInBounds_toArray, List.set_cons_zero, List.set_cons_succ])
            refine wpAnyH_takeW (i := 11) (d := some 140) (v := ?_) (by simp only [List.getElem?_toArray, List.getElem?_cons_succ, List.getElem?_cons_zero]; rfl) (by rfl) (by kernel_rfl) (by kernel_rfl) (by kernel_rfl) (by intro _ _ _ h; exact h) (by rfl) ?_ (by assumption) ?_
            rotate_left 1
            · (intro w hSw; (try dsimp only at hSw); go_simp; try (with_reducible rfl))
            (try simp only [Act.put, List.setIfInBounds_toArray, List.set_cons_zero, List.set_cons_succ])
            refine wpAnyH_takeW (i := 12) (d := some 141) (v := ?_) (by simp only [List.getElem?_toArray, List.getElem?_cons_succ, List.getElem?_cons_zero]; rfl) (by rfl) (by kernel_rfl) (by kernel_rfl) (by kernel_rfl) (by intro _ _ _ h; exact h) (by rfl) ?_ (by assumption) ?_
            rotate_left 1
            · (intro w hSw; (try dsimp only at hSw); go_simp; try (with_reducible rfl))
            (try simp only [Act.put, List.setIfInBounds_toArray, List.set_cons_zero, List.set_cons_succ])
            refine wpAnyH_takeW (i := 13) (d := some 142) (v := ?_) (by simp only [List.getElem?_toArray, List.getElem?_cons_succ, List.getElem?_cons_zero]; rfl) (by rfl) (by kernel_rfl) (by kernel_rfl) (by kernel_rfl) (by intro _ _ _ h; exact h) (by rfl) ?_ (by assumption) ?_
            rotate_left 1
            · (intro w hSw; (try dsimp only at hSw); go_simp; try (with_reducible rfl))
            (try simp only [Act.put, List.setIfInBounds_toArray, List.set_cons_zero, List.set_cons_succ])
            refine wpAnyH_takeW (i := 16) (d := some 145) (v := ?_) (by simp only [List.getElem?_toArray, List.getElem?_cons_succ, List.getElem?_cons_zero]; rfl) (by rfl) (by kernel_rfl) (by kernel_rfl) (by kernel_rfl) (by intro _ _ _ h; exact h) (by rfl) ?_ (by assumption) ?_
            rotate_left 1
            · (intro w hSw; (try dsimp only at hSw); go_simp; try (with_reducible rfl))
            (try simp only [Act.put, List.setIfInBounds_toArray, List.set_cons_zero, List.set_cons_succ])
            refine wpAnyH_ready (rs := [14]) (by kernel_rfl) (by simp) ?_
            refine AllReadyH.cons (i := 14) (by simp only [List.getElem?_toArray, List.getElem?_cons_succ, List.getElem?_cons_zero]; rfl) (fun K hK => ?_) AllReadyH.nil
            go_simp
            go_wp2_with fail
            refine hK.out _ _ ?_ (fun hHeld => ?_)
            · ((try dsimp only); exact fun b o h => Below.cell (p := ⟨b, o, none⟩) (by repeat (first | (with_reducible exact Below.refl _ _) | (with_reducible refine Below.ext ?_ (by go_size) _ _) | (with_reducible refine Below.alloc ?_ (by go_size) _) | (with_reducible refine Below.setCell ?_ (by go_size) _) | (with_reducible refine Below.drew ?_) | (with_reducible refine Below.drewN_ ?_ _))) h)
            clear hK K
            (try simp only [Act.put, List.setIfInBounds_toArray, List.set_cons_zero, List.set_cons_succ])
            refine wpAnyH_ready (rs := [15]) (by kernel_rfl) (by simp) ?_
            refine AllReadyH.cons (i := 15) (by simp only [List.getElem?_toArray, List.getElem?_cons_succ, List.getElem?_cons_zero]; rfl) (fun K hK => ?_) AllReadyH.nil
            go_simp
            (go_at_call 31; refine (appL (xs := [true, false]) HA3.out (by simp) _ (row_new _ _ _ _ _ (by simp) row_tf) (by simp)).mono ?_; rintro e w' ⟨rfl, hbw⟩; obtain ⟨Xs, ds, rfl⟩ := Below.ext_ hbw; clear hbw)
            go_wp2_with fail
            refine hK.out _ _ ?_ (fun hHeld => ?_)
            · ((try dsimp only); exact fun b o h => Below.cell (p := ⟨b, o, none⟩) (by repeat (first | (with_reducible exact Below.refl _ _) | (with_reducible refine Below.ext ?_ (by go_size) _ _) | (with_reducible refine Below.alloc ?_ (by go_size) _) | (with_reducible refine Below.setCell ?_ (by go_size) _) | (with_reducible refine Below.drew ?_) | (with_reducible refine Below.drewN_ ?_ _))) h)
            clear hK K
            (try simp only [Act.put, List.setIfInBounds_toArray, List.set_cons_zero, List.set_cons_succ])
            refine wpAnyH_ready (rs := [17]) (by kernel_rfl) (by simp) ?_
            refine AllReadyH.cons (i := 17) (by simp only [List.getElem?_toArray, List.getElem?_cons_succ, List.getElem?_cons_zero]; rfl) (fun K hK => ?_) AllReadyH.nil
            go_simp
            (go_at_call 19; refine (faiL HA4.out _).mono ?_; rintro e w' ⟨rfl, hbw⟩; obtain ⟨Xt, dt, rfl⟩ := Below.ext_ hbw; clear hbw)
            go_wp2_with fail
            refine hK.out _ _ ?_ (fun hHeld => ?_)
            · ((try dsimp only); exact fun b o h => Below.cell (p := ⟨b, o, none⟩) (by repeat (first | (with_reducible exact Below.refl _ _) | (with_reducible refine Below.ext ?_ (by go_size) _ _) | (with_reducible refine Below.alloc ?_ (by go_size) _) | (with_reducible refine Below.setCell ?_ (by go_size) _) | (with_reducible refine Below.drew ?_) | (with_reducible refine Below.drewN_ ?_ _))) h)
            clear hK K
            (try simp only [Act.put, List.setIfInBounds_toArray, List.set_cons_zero, List.set_cons_succ])
            refine wpAnyH_takeW (i := 18) (d := some 147) (v := ?_) (by simp only [List.getElem?_toArray, List.getElem?_cons_succ, List.getElem?_cons_zero]; rfl) (by rfl) (by kernel_rfl) (by kernel_rfl) (by kernel_rfl) (by intro _ _ _ h; exact h) (by rfl) ?_ (by assumption) ?_
            rotate_left 1
            · (intro w hSw; (try dsimp only at hSw); go_simp; try (with_reducible rfl))
            (try simp only [Act.put, List.setIfInBounds_toArray, List.set_cons_zero, List.set_cons_succ])
            refine wpAnyH_takeW (i := 19) (d := some 148) (v := ?_) (by simp only [List.getElem?_toArray, List.getElem?_cons_succ, List.getElem?_cons_zero]; rfl) (by rfl) (by kernel_rfl) (by kernel_rfl) (by kernel_rfl) (by intro _ _ _ h; exact h) (by rfl) ?_ (by assumption) ?_
            rotate_left 1
            · (intro w hSw; (try dsimp only at hSw); go_simp; try (with_reducible rfl))
            (try simp only [Act.put, List.setIfInBounds_toArray, List.set_cons_zero, List.set_cons_succ])
            refine wpAnyH_takeW (i := 20) (d := some 2) (v := ?_) (by simp only [List.getElem?_toArray, List.getElem?_cons_succ, List.getElem?_cons_zero]; rfl) (by rfl) (by kernel_rfl) (by kernel_rfl) (by kernel_rfl) (by intro _ _ _ h; exact h) (by rfl) ?_ (by assumption) ?_
            rotate_left 1
            · (intro w hSw; (try dsimp only at hSw); go_simp; try (with_reducible rfl))
            (try simp only [Act.put, List.setIfInBounds_toArray, List.set_cons_zero, List.set_cons_succ])
            refine wpAnyH_done (by kernel_rfl) ?_ _
            all_goals go_wp2
            all_goals go_ret
            all_goals have hWs2 := HBW2.out.size
            all_goals exact ⟨rfl, (by repeat (first | (with_reducible exact HBW2.out) | (with_reducible refine Below.ext ?_ (by go_size) _ _) | (with_reducible refine Below.alloc ?_ (by go_size) _) | (with_reducible refine Below.setCell ?_ (by go_size) _) | (with_reducible refine Below.drew ?_) | (with_reducible refine Below.drewN_ ?_ _)))⟩

end Go.Proofs.Ytkjkhlncdopndaa
