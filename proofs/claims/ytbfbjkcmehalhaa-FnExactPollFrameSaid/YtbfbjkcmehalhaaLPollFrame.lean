/- For every input the law FnExactPollFrame returns true and leaves its arguments as they were. Conditions: none. -/
import Derived.Test.YtbfbjkcmehalhaaLift
import Derived.Test.YtbfbjkcmehalhaaAgg
import Derived.Test.YtbfbjkcmehalhaaPpoW
namespace Go.Proofs.Ytbfbjkcmehalhaa.fnExactPollFrame
open Go.ChangeShapes Go.WideShapes Go.ChangeAt Go.RowKit Go.Joins
set_option linter.unusedVariables false

theorem cells24 : Try.prog.cellsOf 24 = 1 := by kernel_rfl
set_option maxRecDepth 100000 in
theorem lifted (os : Os) (started : os.Started) (H : Type) (enc : TypeId × Value → H) :
    ReturnsInHanded {} Try.checked os 8 .any (Rows.fnExactPollFrameSpec.pre6 enc Try.prog Try.f8 Rows.fnExactPollFrameRow.domain false) (Rows.fnExactPollFrameSpec.post enc Try.prog Try.f8 false true false false) := by
  refine returnsInHanded_of_change (C := Try.checked) own started (by kernel_rfl) Try.func8
    (ChangeSpec.witness6 (enc := enc) (C := Try.checked) false ⟨#[], #[.agg #[.slice none 0 0], .int .i64 0], []⟩ 8 (by kernel_rfl) (by kernel_rfl) (by kernel_rfl) (by kernel_rfl)) ?_
  intro W base args ds gs before hval0 hW hcnd _
  have hval : ∀ (j : Nat) t v, Try.f8.params[j]? = some t → args[j]? = some v → Value.okWide Try.prog W .any base t v := hval0
  have hW' := hW
  obtain ⟨p, q, hA0, hV, rfl, hfz, hnd⟩ := hW
  have hA : DataW.TrodAll enc Try.prog W 0 (fun _ => true) true Try.f8.params.toList args.toList ds p := hA0
  have hA1 := hA
  rw [Try.params8] at hA hval
  obtain ⟨v0, vs0, d0, ds0, p0, q0, hargs, hds0, hps0, h0, r0⟩ := trodAll_cons hA
  obtain ⟨v1, vs1, d1, ds1, p1, q1, rfl, hds1, hps1, h1, r1⟩ := trodAll_cons r0
  obtain ⟨rfl, hdn, hpn⟩ := trodAll_nil r1
  subst hdn hpn hds1 hps1 hds0 hps0
  obtain rfl : args = #[v0, v1] := by cases args; simp_all
  obtain ⟨rfl, rfl⟩ := trodVars_none hV
  obtain ⟨c0_0, y0_0, m0, rfl, _, _, hy0_0⟩ := open_agg1 Try.underlying24 (by kernel_rfl) cells24 (hval 0 24 v0 rfl rfl) h0
  obtain ⟨Aa0_0, capa0_0, xsa0_0, ea0_0, hla0_0, hxa0_0, hba0_0⟩ := open_kts Try.underlying22 Try.underlying60 (by kernel_rfl) (by kernel_rfl) Try.underlying3 Try.underlying4 Try.underlying49 Try.underlying38 Try.underlying5 (by kernel_rfl) (by kernel_rfl) Try.underlying3 hy0_0
  subst ea0_0
  obtain ⟨a1, rfl, _, _, wa1⟩ := open_int Try.underlying3 (hval 1 3 v1 rfl rfl) h1
  refine (pollFrame_walk Aa0_0 capa0_0 xsa0_0 a1 (bounds_i64 wa1) W hxa0_0 hla0_0 hba0_0).mono fun e W' ⟨he, bel⟩ => ?_
  subst he
  exact ⟨_, rfl, _, _, _, [], _, [], hW', trodAll_mk1 (shut_bool Try.underlying4 _), trodAll_below laidOut bel _ _ _ _ (by kernel_rfl) hA1, rfl, bel.frame _, fun h => by cases h⟩

theorem over : Rows.fnExactPollFrameRow.holds Try.pinned (OpenSpec.ofChange Rows.fnExactPollFrameSpec) :=
  OpenClaim.holds_of_wide 8 Try.f8 rfl rfl rfl rfl rfl rfl rfl ⟨rfl, rfl, rfl, rfl, rfl⟩ rfl rfl rfl rfl rfl (by kernel_rfl) Try.func8 (by kernel_rfl)
    (of_decide_eq_true (by kernel_rfl)) (by unfold Func.isWrapper; first | (rw [if_pos (by decide +kernel)]; kernel_rfl) | (rw [if_neg (by decide +kernel)]; exact ⟨rfl, rfl⟩))
    (fun os started H enc _ => lifted os started H enc)

theorem proved : Rows.FnExactPollFrameSaid := over
end Go.Proofs.Ytbfbjkcmehalhaa.fnExactPollFrame
