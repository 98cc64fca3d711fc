/- For every input the law FnExactEncodeBeacon returns true and leaves its arguments as they were. Conditions: none. -/
import Derived.Test.YtifakpjchmalnaaLift
import Derived.Test.YtifakpjchmalnaaAgg
import Derived.Test.YtifakpjchmalnaaEncC
namespace Go.Proofs.Ytifakpjchmalnaa.fnExactEncodeBeacon
open Go.ChangeShapes Go.WideShapes Go.ChangeAt Go.RowKit Go.Joins
set_option linter.unusedVariables false

theorem cells25 : Try.prog.cellsOf 25 = 6 := by kernel_rfl
set_option maxRecDepth 100000 in
theorem lifted (os : Os) (started : os.Started) (H : Type) (enc : TypeId × Value → H) :
    ReturnsInHanded {} Try.checked os 9 .any (Rows.fnExactEncodeBeaconSpec.pre6 enc Try.prog Try.f9 Rows.fnExactEncodeBeaconRow.domain false) (Rows.fnExactEncodeBeaconSpec.post enc Try.prog Try.f9 false true false false) := by
  refine returnsInHanded_of_change (C := Try.checked) own started (by kernel_rfl) Try.func9
    (ChangeSpec.witness6 (enc := enc) (C := Try.checked) false ⟨#[], #[.agg #[.int .i64 0, .int .i64 0, .int .i64 0, .int .i64 0, .bool false, .int .i64 0]], []⟩ 8 (by kernel_rfl) (by kernel_rfl) (by kernel_rfl) (by kernel_rfl)) ?_
  intro W base args ds gs before hval0 hW hcnd _
  have hval : ∀ (j : Nat) t v, Try.f9.params[j]? = some t → args[j]? = some v → Value.okWide Try.prog W .any base t v := hval0
  have hW' := hW
  obtain ⟨p, q, hA0, hV, rfl, hfz, hnd⟩ := hW
  have hA : DataW.TrodAll enc Try.prog W 0 (fun _ => true) true Try.f9.params.toList args.toList ds p := hA0
  have hA1 := hA
  rw [Try.params9] at hA hval
  obtain ⟨v0, vs0, d0, ds0, p0, q0, hargs, hds0, hps0, h0, r0⟩ := trodAll_cons hA
  obtain ⟨rfl, hdn, hpn⟩ := trodAll_nil r0
  subst hdn hpn hds0 hps0
  obtain rfl : args = #[v0] := by cases args; simp_all
  obtain ⟨rfl, rfl⟩ := trodVars_none hV
  obtain ⟨c0_0, c0_1, c0_2, c0_3, c0_4, c0_5, y0_0, y0_1, y0_2, y0_3, y0_4, y0_5, m0, rfl, _, _, hy0_0, hy0_1, hy0_2, hy0_3, hy0_4, hy0_5⟩ := open_agg6 Try.underlying25 (by kernel_rfl) cells25 (hval 0 25 v0 rfl rfl) h0
  obtain ⟨a0_0, ea0_0, _, wa0_0⟩ := DataW.trod_int Try.underlying3 hy0_0
  simp only [List.cons.injEq, and_true] at ea0_0
  subst ea0_0
  obtain ⟨a0_1, ea0_1, _, wa0_1⟩ := DataW.trod_int Try.underlying3 hy0_1
  simp only [List.cons.injEq, and_true] at ea0_1
  subst ea0_1
  obtain ⟨a0_2, ea0_2, _, wa0_2⟩ := DataW.trod_int Try.underlying3 hy0_2
  simp only [List.cons.injEq, and_true] at ea0_2
  subst ea0_2
  obtain ⟨a0_3, ea0_3, _, wa0_3⟩ := DataW.trod_int Try.underlying3 hy0_3
  simp only [List.cons.injEq, and_true] at ea0_3
  subst ea0_3
  obtain ⟨a0_4, ea0_4, _⟩ := DataW.trod_bool Try.underlying4 hy0_4
  simp only [List.cons.injEq, and_true] at ea0_4
  subst ea0_4
  obtain ⟨a0_5, ea0_5, _, wa0_5⟩ := DataW.trod_int Try.underlying3 hy0_5
  simp only [List.cons.injEq, and_true] at ea0_5
  subst ea0_5
  refine (encodeBeacon_walk a0_0 a0_1 a0_2 a0_3 a0_4 a0_5 (bounds_i64 wa0_0) (bounds_i64 wa0_1) (bounds_i64 wa0_2) (bounds_i64 wa0_3) (bounds_i64 wa0_5) W ).mono fun e W' ⟨he, bel⟩ => ?_
  subst he
  exact ⟨_, rfl, _, _, _, [], _, [], hW', trodAll_mk1 (shut_bool Try.underlying4 _), trodAll_below laidOut bel _ _ _ _ (by kernel_rfl) hA1, rfl, bel.frame _, fun h => by cases h⟩

theorem over : Rows.fnExactEncodeBeaconRow.holds Try.pinned (OpenSpec.ofChange Rows.fnExactEncodeBeaconSpec) :=
  OpenClaim.holds_of_wide 9 Try.f9 rfl rfl rfl rfl rfl rfl rfl ⟨rfl, rfl, rfl, rfl, rfl⟩ rfl rfl rfl rfl rfl (by kernel_rfl) Try.func9 (by kernel_rfl)
    (of_decide_eq_true (by kernel_rfl)) (by unfold Func.isWrapper; first | (rw [if_pos (by decide +kernel)]; kernel_rfl) | (rw [if_neg (by decide +kernel)]; exact ⟨rfl, rfl⟩))
    (fun os started H enc _ => lifted os started H enc)

theorem proved : Rows.FnExactEncodeBeaconSaid := over
end Go.Proofs.Ytifakpjchmalnaa.fnExactEncodeBeacon
