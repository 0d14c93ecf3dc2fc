/- TxChecks: which transactions may be, their bytes and ids, is what the chapter says. No condition beside the statement's own. -/
import Derived.Test.YtkbahhnjoidhcaaRowO
import Derived.Test.YtkbahhnjoidhcaaVj
namespace Go.Proofs.Ytkbahhnjoidhcaa
set_option linter.unusedVariables false
set_option linter.unusedSimpArgs false
open Go.ChangeShapes Go.WideShapes Go.ChangeAt Go.RowKit Go.Deep

set_option maxRecDepth 100000 in
set_option maxHeartbeats 1000000 in
theorem txchecks_lifted (os : Os) (started : os.Started) (H : Type) (enc : TypeId × Value → H) :
    ReturnsInHanded {} Try.checked os 4 .any (Rows.txChecksSpec.pre6 enc Try.prog Try.f4 Rows.txChecksRow.domain false) (Rows.txChecksSpec.post enc Try.prog Try.f4 false true false false) := by
  refine returnsInHanded_of_change (C := Try.checked) ownKnobNone started (by kernel_rfl) Try.func4
    (ChangeSpec.witness6 (enc := enc) (C := Try.checked) false ⟨#[], #[.agg #[.slice none 0 0, .slice none 0 0, .int .u64 0]], []⟩ 8 (by kernel_rfl) (by kernel_rfl) (by kernel_rfl) (by kernel_rfl)) ?_
  intro W base args ds gs before hval0 hW hcnd _
  have hval : ∀ (j : Nat) t v, Try.f4.params[j]? = some t → args[j]? = some v → Value.okWide Try.prog W .any base t v := hval0
  have hW' := hW
  obtain ⟨p, q, hA0, hV, rfl, hfz, hnd⟩ := hW
  have hA : DataW.TrodAll enc Try.prog W 0 (fun _ => true) true Try.f4.params.toList args.toList ds p := hA0
  rw [Try.params4] at hA hval
  obtain ⟨u0, d0, p0, rfl, rfl, rfl, h0⟩ := tA1 hA
  obtain ⟨rfl, rfl⟩ := trodVars_none hV
  obtain ⟨fuel0, hf0⟩ := h0
  obtain ⟨cs0, rfl⟩ := okW_struct Try.underlying37 (hval 0 _ _ rfl rfl)
  obtain ⟨z0, hv0, hi0, ho0, hw0, hs0⟩ := openb_tx hf0 (Nat.le_refl _)
  simp only [Value.cells] at hv0
  have hc0 : cs0 = (txC z0).toArray := by rw [← hv0]
  subst hc0
  refine (txchecks_any (fun _ => True) W z0.1 z0.2 hi0 ho0 hw0).mono fun e W' ⟨he, hb⟩ => ?_
  subst he
  exact ⟨_, rfl, post_true 4 laidOutTrue (by kernel_rfl) rfl Try.underlying4 rfl hW' rfl hb⟩

theorem txchecks_holds : Rows.TxChecksSaid :=
  OpenClaim.holds_of_wide 4 Try.f4 rfl rfl rfl rfl rfl rfl rfl ⟨rfl, rfl, rfl, rfl, rfl⟩ rfl rfl rfl rfl rfl (by kernel_rfl) Try.func4 (by kernel_rfl)
    (of_decide_eq_true (by kernel_rfl)) (by unfold Func.isWrapper; rw [if_neg (of_decide_eq_false (by kernel_rfl))]; exact ⟨rfl, rfl⟩)
    (fun os started H enc _ => txchecks_lifted os started H enc)

end Go.Proofs.Ytkbahhnjoidhcaa
