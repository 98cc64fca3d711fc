/- For every input the law FnExactHearBeacon returns true and leaves its arguments as they were. Conditions: none. -/
import Derived.Test.YtncnlhmakigpgaaLift
import Derived.Test.YtncnlhmakigpgaaAgg
import Derived.Test.YtncnlhmakigpgaaSleepC
namespace Go.Proofs.Ytncnlhmakigpgaa.fnExactHearBeacon
open Go.ChangeShapes Go.WideShapes Go.ChangeAt Go.RowKit Go.Joins
set_option linter.unusedVariables false

theorem cells23 : Try.prog.cellsOf 23 = 5 := by kernel_rfl
theorem cells37 : Try.prog.cellsOf 37 = 6 := by kernel_rfl
set_option maxRecDepth 100000 in
theorem lifted (os : Os) (started : os.Started) (H : Type) (enc : TypeId × Value → H) :
    ReturnsInHanded {} Try.checked os 10 .any (Rows.fnExactHearBeaconSpec.pre6 enc Try.prog Try.f10 Rows.fnExactHearBeaconRow.domain false) (Rows.fnExactHearBeaconSpec.post enc Try.prog Try.f10 false true false false) := by
  refine returnsInHanded_of_change (C := Try.checked) own started (by kernel_rfl) Try.func10
    (ChangeSpec.witness6 (enc := enc) (C := Try.checked) false ⟨#[], #[.agg #[.int .i64 0, .bool false, .int .i64 0, .int .i64 0, .bool false], .agg #[.int .i64 0, .int .i64 0, .int .i64 0, .int .i64 0, .bool false, .int .i64 0], .int .i64 0], []⟩ 8 (by kernel_rfl) (by kernel_rfl) (by kernel_rfl) (by kernel_rfl)) ?_
  intro W base args ds gs before hval0 hW hcnd _
  have hval : ∀ (j : Nat) t v, Try.f10.params[j]? = some t → args[j]? = some v → Value.okWide Try.prog W .any base t v := hval0
  have hW' := hW
  obtain ⟨p, q, hA0, hV, rfl, hfz, hnd⟩ := hW
  have hA : DataW.TrodAll enc Try.prog W 0 (fun _ => true) true Try.f10.params.toList args.toList ds p := hA0
  have hA1 := hA
  rw [Try.params10] at hA hval
  obtain ⟨v0, vs0, d0, ds0, p0, q0, hargs, hds0, hps0, h0, r0⟩ := trodAll_cons hA
  obtain ⟨v1, vs1, d1, ds1, p1, q1, rfl, hds1, hps1, h1, r1⟩ := trodAll_cons r0
  obtain ⟨v2, vs2, d2, ds2, p2, q2, rfl, hds2, hps2, h2, r2⟩ := trodAll_cons r1
  obtain ⟨rfl, hdn, hpn⟩ := trodAll_nil r2
  subst hdn hpn hds2 hps2 hds1 hps1 hds0 hps0
  obtain rfl : args = #[v0, v1, v2] := by cases args; simp_all
  obtain ⟨rfl, rfl⟩ := trodVars_none hV
  obtain ⟨c0_0, c0_1, c0_2, c0_3, c0_4, y0_0, y0_1, y0_2, y0_3, y0_4, m0, rfl, _, _, hy0_0, hy0_1, hy0_2, hy0_3, hy0_4⟩ := open_agg5 Try.underlying23 (by kernel_rfl) cells23 (hval 0 23 v0 rfl rfl) h0
  obtain ⟨a0_0, ea0_0, _, wa0_0⟩ := DataW.trod_int Try.underlying3 hy0_0
  simp only [List.cons.injEq, and_true] at ea0_0
  subst ea0_0
  obtain ⟨a0_1, ea0_1, _⟩ := DataW.trod_bool Try.underlying4 hy0_1
  simp only [List.cons.injEq, and_true] at ea0_1
  subst ea0_1
  obtain ⟨a0_2, ea0_2, _, wa0_2⟩ := DataW.trod_int Try.underlying3 hy0_2
  simp only [List.cons.injEq, and_true] at ea0_2
  subst ea0_2
  obtain ⟨a0_3, ea0_3, _, wa0_3⟩ := DataW.trod_int Try.underlying3 hy0_3
  simp only [List.cons.injEq, and_true] at ea0_3
  subst ea0_3
  obtain ⟨a0_4, ea0_4, _⟩ := DataW.trod_bool Try.underlying4 hy0_4
  simp only [List.cons.injEq, and_true] at ea0_4
  subst ea0_4
  obtain ⟨c1_0, c1_1, c1_2, c1_3, c1_4, c1_5, y1_0, y1_1, y1_2, y1_3, y1_4, y1_5, m1, rfl, _, _, hy1_0, hy1_1, hy1_2, hy1_3, hy1_4, hy1_5⟩ := open_agg6 Try.underlying37 (by kernel_rfl) cells37 (hval 1 37 v1 rfl rfl) h1
  obtain ⟨a1_0, ea1_0, _, wa1_0⟩ := DataW.trod_int Try.underlying3 hy1_0
  simp only [List.cons.injEq, and_true] at ea1_0
  subst ea1_0
  obtain ⟨a1_1, ea1_1, _, wa1_1⟩ := DataW.trod_int Try.underlying3 hy1_1
  simp only [List.cons.injEq, and_true] at ea1_1
  subst ea1_1
  obtain ⟨a1_2, ea1_2, _, wa1_2⟩ := DataW.trod_int Try.underlying3 hy1_2
  simp only [List.cons.injEq, and_true] at ea1_2
  subst ea1_2
  obtain ⟨a1_3, ea1_3, _, wa1_3⟩ := DataW.trod_int Try.underlying3 hy1_3
  simp only [List.cons.injEq, and_true] at ea1_3
  subst ea1_3
  obtain ⟨a1_4, ea1_4, _⟩ := DataW.trod_bool Try.underlying4 hy1_4
  simp only [List.cons.injEq, and_true] at ea1_4
  subst ea1_4
  obtain ⟨a1_5, ea1_5, _, wa1_5⟩ := DataW.trod_int Try.underlying3 hy1_5
  simp only [List.cons.injEq, and_true] at ea1_5
  subst ea1_5
  obtain ⟨a2, rfl, _, _, wa2⟩ := open_int Try.underlying3 (hval 2 3 v2 rfl rfl) h2
  refine (hearBeacon_walk a0_0 a0_1 a0_2 a0_3 a0_4 a1_0 a1_1 a1_2 a1_3 a1_4 a1_5 a2 (bounds_i64 wa0_0) (bounds_i64 wa0_2) (bounds_i64 wa0_3) (bounds_i64 wa1_0) (bounds_i64 wa1_1) (bounds_i64 wa1_2) (bounds_i64 wa1_3) (bounds_i64 wa1_5) (bounds_i64 wa2) W).mono fun e W' ⟨he, bel⟩ => ?_
  subst he
  exact ⟨_, rfl, _, _, _, [], _, [], hW', trodAll_mk1 (shut_bool Try.underlying4 _), trodAll_below laidOut bel _ _ _ _ (by kernel_rfl) hA1, rfl, bel.frame _, fun h => by cases h⟩

theorem over : Rows.fnExactHearBeaconRow.holds Try.pinned (OpenSpec.ofChange Rows.fnExactHearBeaconSpec) :=
  OpenClaim.holds_of_wide 10 Try.f10 rfl rfl rfl rfl rfl rfl rfl ⟨rfl, rfl, rfl, rfl, rfl⟩ rfl rfl rfl rfl rfl (by kernel_rfl) Try.func10 (by kernel_rfl)
    (of_decide_eq_true (by kernel_rfl)) (by unfold Func.isWrapper; first | (rw [if_pos (by decide +kernel)]; kernel_rfl) | (rw [if_neg (by decide +kernel)]; exact ⟨rfl, rfl⟩))
    (fun os started H enc _ => lifted os started H enc)

theorem proved : Rows.FnExactHearBeaconSaid := over
end Go.Proofs.Ytncnlhmakigpgaa.fnExactHearBeacon
