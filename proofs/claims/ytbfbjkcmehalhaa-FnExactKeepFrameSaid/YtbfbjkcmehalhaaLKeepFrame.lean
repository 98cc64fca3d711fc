/- For every input the law FnExactKeepFrame returns true and leaves its arguments as they were. Conditions: none. -/
import Derived.Test.YtbfbjkcmehalhaaLift
import Derived.Test.YtbfbjkcmehalhaaAgg
import Derived.Test.YtbfbjkcmehalhaaPkpW
namespace Go.Proofs.Ytbfbjkcmehalhaa.fnExactKeepFrame
open Go.ChangeShapes Go.WideShapes Go.ChangeAt Go.RowKit Go.Joins
set_option linter.unusedVariables false

theorem cells24 : Try.prog.cellsOf 24 = 1 := by kernel_rfl
set_option maxRecDepth 100000 in
theorem lifted (os : Os) (started : os.Started) (H : Type) (enc : TypeId × Value → H) :
    ReturnsInHanded {} Try.checked os 9 .any (Rows.fnExactKeepFrameSpec.pre6 enc Try.prog Try.f9 Rows.fnExactKeepFrameRow.domain false) (Rows.fnExactKeepFrameSpec.post enc Try.prog Try.f9 false true false false) := by
  refine returnsInHanded_of_change (C := Try.checked) own started (by kernel_rfl) Try.func9
    (ChangeSpec.witness6 (enc := enc) (C := Try.checked) false ⟨#[], #[.agg #[.slice none 0 0], .int .i64 0, .slice none 0 0], []⟩ 8 (by kernel_rfl) (by kernel_rfl) (by kernel_rfl) (by kernel_rfl)) ?_
  intro W base args ds gs before hval0 hW hcnd _
  have hval : ∀ (j : Nat) t v, Try.f9.params[j]? = some t → args[j]? = some v → Value.okWide Try.prog W .any base t v := hval0
  have hW' := hW
  obtain ⟨p, q, hA0, hV, rfl, hfz, hnd⟩ := hW
  have hA : DataW.TrodAll enc Try.prog W 0 (fun _ => true) true Try.f9.params.toList args.toList ds p := hA0
  have hA1 := hA
  rw [Try.params9] at hA hval
  obtain ⟨v0, vs0, d0, ds0, p0, q0, hargs, hds0, hps0, h0, r0⟩ := trodAll_cons hA
  obtain ⟨v1, vs1, d1, ds1, p1, q1, rfl, hds1, hps1, h1, r1⟩ := trodAll_cons r0
  obtain ⟨v2, vs2, d2, ds2, p2, q2, rfl, hds2, hps2, h2, r2⟩ := trodAll_cons r1
  obtain ⟨rfl, hdn, hpn⟩ := trodAll_nil r2
  subst hdn hpn hds2 hps2 hds1 hps1 hds0 hps0
  obtain rfl : args = #[v0, v1, v2] := by cases args; simp_all
  obtain ⟨rfl, rfl⟩ := trodVars_none hV
  obtain ⟨c0_0, y0_0, m0, rfl, _, _, hy0_0⟩ := open_agg1 Try.underlying24 (by kernel_rfl) cells24 (hval 0 24 v0 rfl rfl) h0
  obtain ⟨Aa0_0, capa0_0, xsa0_0, ea0_0, hla0_0, hxa0_0, hba0_0⟩ := open_kts Try.underlying22 Try.underlying60 (by kernel_rfl) (by kernel_rfl) Try.underlying3 Try.underlying4 Try.underlying49 Try.underlying38 Try.underlying5 (by kernel_rfl) (by kernel_rfl) Try.underlying3 hy0_0
  subst ea0_0
  obtain ⟨a1, rfl, _, _, wa1⟩ := open_int Try.underlying3 (hval 1 3 v1 rfl rfl) h1
  obtain ⟨A2, cap2, xs2, rfl, hl2, hx2, hw2⟩ := open_ints_rw Try.underlying38 Try.underlying5 (by kernel_rfl) (hval 2 38 v2 rfl rfl) h2
  refine (keepFrame_walk Aa0_0 capa0_0 xsa0_0 a1 A2 cap2 xs2 (bounds_i64 wa1) W hxa0_0 hla0_0 hba0_0 hx2 hl2 (fun x hx => bounds_u8 (hw2 x hx))).mono fun e W' ⟨he, bel⟩ => ?_
  subst he
  exact ⟨_, rfl, _, _, _, [], _, [], hW', trodAll_mk1 (shut_bool Try.underlying4 _), trodAll_below laidOut bel _ _ _ _ (by kernel_rfl) hA1, rfl, bel.frame _, fun h => by cases h⟩

theorem over : Rows.fnExactKeepFrameRow.holds Try.pinned (OpenSpec.ofChange Rows.fnExactKeepFrameSpec) :=
  OpenClaim.holds_of_wide 9 Try.f9 rfl rfl rfl rfl rfl rfl rfl ⟨rfl, rfl, rfl, rfl, rfl⟩ rfl rfl rfl rfl rfl (by kernel_rfl) Try.func9 (by kernel_rfl)
    (of_decide_eq_true (by kernel_rfl)) (by unfold Func.isWrapper; first | (rw [if_pos (by decide +kernel)]; kernel_rfl) | (rw [if_neg (by decide +kernel)]; exact ⟨rfl, rfl⟩))
    (fun os started H enc _ => lifted os started H enc)

theorem proved : Rows.FnExactKeepFrameSaid := over
end Go.Proofs.Ytbfbjkcmehalhaa.fnExactKeepFrame
