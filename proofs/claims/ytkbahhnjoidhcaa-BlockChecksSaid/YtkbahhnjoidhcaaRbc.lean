/- BlockChecks: which blocks have their form, their bytes and the root of their transactions, is what the chapter says. No condition beside the statement's own. -/
import Derived.Test.YtkbahhnjoidhcaaRowO
import Derived.Test.YtkbahhnjoidhcaaG12
namespace Go.Proofs.Ytkbahhnjoidhcaa
set_option linter.unusedVariables false
set_option linter.unusedSimpArgs false
open Go.ChangeShapes Go.WideShapes Go.ChangeAt Go.RowKit Go.Deep

set_option maxRecDepth 100000 in
set_option maxHeartbeats 1000000 in
theorem blockchecks_lifted (os : Os) (started : os.Started) (H : Type) (enc : TypeId × Value → H) :
    ReturnsInHanded {} Try.checked os 6 .any (Rows.blockChecksSpec.pre6 enc Try.prog Try.f6 Rows.blockChecksRow.domain false) (Rows.blockChecksSpec.post enc Try.prog Try.f6 false true false false) := by
  refine returnsInHanded_of_change (C := Try.checked) ownKnobNone started (by kernel_rfl) Try.func6
    (ChangeSpec.witness6 (enc := enc) (C := Try.checked) false ⟨#[], #[.agg zeroBl.toArray], []⟩ 8 (by kernel_rfl) (by kernel_rfl) (by kernel_rfl) (by kernel_rfl)) ?_
  intro W base args ds gs before hval0 hW hcnd _
  have hval : ∀ (j : Nat) t v, Try.f6.params[j]? = some t → args[j]? = some v → Value.okWide Try.prog W .any base t v := hval0
  have hW' := hW
  obtain ⟨p, q, hA0, hV, rfl, hfz, hnd⟩ := hW
  have hA : DataW.TrodAll enc Try.prog W 0 (fun _ => true) true Try.f6.params.toList args.toList ds p := hA0
  rw [Try.params6] at hA hval
  obtain ⟨u0, d0, p0, rfl, rfl, rfl, h0⟩ := tA1 hA
  obtain ⟨rfl, rfl⟩ := trodVars_none hV
  obtain ⟨fuel0, hf0⟩ := h0
  obtain ⟨cs0, rfl⟩ := okW_struct Try.underlying30 (hval 0 _ _ rfl rfl)
  obtain ⟨z0, v0, t0, hv0, ok0, hs0, ht0, hp0, hn0, hl0, hall0⟩ := openb_block hf0 (Nat.le_refl _)
  simp only [Value.cells] at hv0
  have hc0 : cs0 = (blC z0 v0 t0).toArray := by rw [← hv0]
  subst hc0
  refine (blockchecks_any (fun _ => True) W z0 v0 t0 ok0 hs0 ht0 (fun y hy => (hall0 y hy).1) hn0).mono fun e W' ⟨he, hb⟩ => ?_
  subst he
  exact ⟨_, rfl, post_true 4 laidOutTrue (by kernel_rfl) rfl Try.underlying4 rfl hW' rfl hb⟩

theorem blockchecks_holds : Rows.BlockChecksSaid :=
  OpenClaim.holds_of_wide 6 Try.f6 rfl rfl rfl rfl rfl rfl rfl ⟨rfl, rfl, rfl, rfl, rfl⟩ rfl rfl rfl rfl rfl (by kernel_rfl) Try.func6 (by kernel_rfl)
    (of_decide_eq_true (by kernel_rfl)) (by unfold Func.isWrapper; rw [if_neg (of_decide_eq_false (by kernel_rfl))]; exact ⟨rfl, rfl⟩)
    (fun os started H enc _ => blockchecks_lifted os started H enc)

end Go.Proofs.Ytkbahhnjoidhcaa
