/- For every input the law FnExactReceiveNumbered returns true and leaves its arguments as they were. Conditions: none. -/
import Derived.Test.YtnfgdgmmbddmgaaLift
import Derived.Test.YtnfgdgmmbddmgaaAgg
import Derived.Test.YtnfgdgmmbddmgaaRrcW
namespace Go.Proofs.Ytnfgdgmmbddmgaa.fnExactReceiveNumbered
open Go.ChangeShapes Go.WideShapes Go.ChangeAt Go.RowKit Go.Joins
set_option linter.unusedVariables false

theorem cells24 : Try.prog.cellsOf 24 = 2 := by kernel_rfl
set_option maxRecDepth 100000 in
theorem lifted (os : Os) (started : os.Started) (H : Type) (enc : TypeId × Value → H) :
    ReturnsInHanded {} Try.checked os 4 .any (Rows.fnExactReceiveNumberedSpec.pre6 enc Try.prog Try.f4 Rows.fnExactReceiveNumberedRow.domain false) (Rows.fnExactReceiveNumberedSpec.post enc Try.prog Try.f4 false true false false) := by
  refine returnsInHanded_of_change (C := Try.checked) own started (by kernel_rfl) Try.func4
    (ChangeSpec.witness6 (enc := enc) (C := Try.checked) false ⟨#[], #[.agg #[.int .i64 0, .slice none 0 0], .int .i64 0, .slice none 0 0], []⟩ 8 (by kernel_rfl) (by kernel_rfl) (by kernel_rfl) (by kernel_rfl)) ?_
  intro W base args ds gs before hval0 hW hcnd _
  have hval : ∀ (j : Nat) t v, Try.f4.params[j]? = some t → args[j]? = some v → Value.okWide Try.prog W .any base t v := hval0
  have hW' := hW
  obtain ⟨p, q, hA0, hV, rfl, hfz, hnd⟩ := hW
  have hA : DataW.TrodAll enc Try.prog W 0 (fun _ => true) true Try.f4.params.toList args.toList ds p := hA0
  have hA1 := hA
  rw [Try.params4] at hA hval
  obtain ⟨v0, vs0, d0, ds0, p0, q0, hargs, hds0, hps0, h0, r0⟩ := trodAll_cons hA
  obtain ⟨v1, vs1, d1, ds1, p1, q1, rfl, hds1, hps1, h1, r1⟩ := trodAll_cons r0
  obtain ⟨v2, vs2, d2, ds2, p2, q2, rfl, hds2, hps2, h2, r2⟩ := trodAll_cons r1
  obtain ⟨rfl, hdn, hpn⟩ := trodAll_nil r2
  subst hdn hpn hds2 hps2 hds1 hps1 hds0 hps0
  obtain rfl : args = #[v0, v1, v2] := by cases args; simp_all
  obtain ⟨rfl, rfl⟩ := trodVars_none hV
  obtain ⟨c0_0, c0_1, y0_0, y0_1, m0, rfl, _, _, hy0_0, hy0_1⟩ := open_agg2 Try.underlying24 (by kernel_rfl) cells24 (hval 0 24 v0 rfl rfl) h0
  obtain ⟨a0_0, ea0_0, _, wa0_0⟩ := DataW.trod_int Try.underlying3 hy0_0
  simp only [List.cons.injEq, and_true] at ea0_0
  subst ea0_0
  obtain ⟨Aa0_1, capa0_1, xsa0_1, ea0_1, hla0_1, hxa0_1, hba0_1⟩ := open_nfs (t0 := 0) (t1 := 0) Try.underlying22 Try.underlying91 (by kernel_rfl) (by kernel_rfl) Try.underlying3 Try.underlying38 Try.underlying5 (by kernel_rfl) hy0_1
  subst ea0_1
  obtain ⟨a1, rfl, _, _, wa1⟩ := open_int Try.underlying3 (hval 1 3 v1 rfl rfl) h1
  obtain ⟨A2, cap2, xs2, rfl, hl2, hx2, hw2⟩ := open_ints_rw Try.underlying38 Try.underlying5 (by kernel_rfl) (hval 2 38 v2 rfl rfl) h2
  refine (receiveNumbered_walk a0_0 Aa0_1 capa0_1 xsa0_1 a1 A2 cap2 xs2 (bounds_i64 wa0_0) (bounds_i64 wa1) W hxa0_1 hla0_1 hba0_1 hx2 hl2 (fun x hx => bounds_u8 (hw2 x hx))).mono fun e W' ⟨he, bel⟩ => ?_
  subst he
  exact ⟨_, rfl, _, _, _, [], _, [], hW', trodAll_mk1 (shut_bool Try.underlying4 _), trodAll_below laidOut bel _ _ _ _ (by kernel_rfl) hA1, rfl, bel.frame _, fun h => by cases h⟩

theorem over : Rows.fnExactReceiveNumberedRow.holds Try.pinned (OpenSpec.ofChange Rows.fnExactReceiveNumberedSpec) :=
  OpenClaim.holds_of_wide 4 Try.f4 rfl rfl rfl rfl rfl rfl rfl ⟨rfl, rfl, rfl, rfl, rfl⟩ rfl rfl rfl rfl rfl (by kernel_rfl) Try.func4 (by kernel_rfl)
    (of_decide_eq_true (by kernel_rfl)) (by unfold Func.isWrapper; first | (rw [if_pos (by decide +kernel)]; kernel_rfl) | (rw [if_neg (by decide +kernel)]; exact ⟨rfl, rfl⟩))
    (fun os started H enc _ => lifted os started H enc)

theorem proved : Rows.FnExactReceiveNumberedSaid := over
end Go.Proofs.Ytnfgdgmmbddmgaa.fnExactReceiveNumbered
