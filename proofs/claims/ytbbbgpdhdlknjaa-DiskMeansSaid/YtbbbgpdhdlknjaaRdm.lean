/- DiskMeans: what was synced lasts; behind a loss of power the logs are as behind the first ones of the steps that waited, and at most a beginning of the next one's bytes more. No condition beside the statement's own. -/
import Derived.Test.YtbbbgpdhdlknjaaRows
import Derived.Test.YtbbbgpdhdlknjaaRowS
import Derived.Test.YtbbbgpdhdlknjaaEi
namespace Go.Proofs.Ytbbbgpdhdlknjaa
set_option linter.unusedVariables false
set_option linter.unusedSimpArgs false
open Go.ChangeShapes Go.WideShapes Go.ChangeAt Go.RowKit Go.Deep

set_option maxRecDepth 100000 in
set_option maxHeartbeats 1000000 in
theorem diskmeans_lifted (os : Os) (started : os.Started) (H : Type) (enc : TypeId × Value → H) :
    ReturnsInHanded {} Try.checked os 3 .any (Rows.diskMeansSpec.pre6 enc Try.prog Try.f3 Rows.diskMeansRow.domain false) (Rows.diskMeansSpec.post enc Try.prog Try.f3 false true false false) := by
  refine returnsInHanded_of_change (C := Try.checked) ownKnobNone started (by kernel_rfl) Try.func3
    (ChangeSpec.witness6 (enc := enc) (C := Try.checked) false ⟨#[], #[.slice none 0 0, .int .i64 0, .int .i64 0], []⟩ 8 (by kernel_rfl) (by kernel_rfl) (by kernel_rfl) (by kernel_rfl)) ?_
  intro W base args ds gs before hval0 hW hcnd _
  have hval : ∀ (j : Nat) t v, Try.f3.params[j]? = some t → args[j]? = some v → Value.okWide Try.prog W .any base t v := hval0
  have hW' := hW
  obtain ⟨p, q, hA0, hV, rfl, hfz, hnd⟩ := hW
  have hA : DataW.TrodAll enc Try.prog W 0 (fun _ => true) true Try.f3.params.toList args.toList ds p := hA0
  rw [Try.params3] at hA hval
  obtain ⟨u0, u1, u2, d0, d1, d2, p0, p1, p2, rfl, rfl, rfl, h0, h1, h2⟩ := tA3 hA
  obtain ⟨rfl, rfl⟩ := trodVars_none hV
  obtain ⟨fuel0, hf0⟩ := h0
  obtain ⟨a0, len0, cap0, rfl⟩ := okWide_slice Try.underlying22 (hval 0 _ _ rfl rfl)
  obtain ⟨v0, l0, hv0, hm0, hn0⟩ := opened_steps hf0
  simp only [Value.cells, List.cons.injEq, and_true] at hv0
  subst hv0
  obtain ⟨fuel1, hf1⟩ := h1
  obtain ⟨n1, e1, _, w1⟩ := DataW.trod_int Try.underlying3 hf1
  obtain ⟨fuel2, hf2⟩ := h2
  obtain ⟨n2, e2, _, w2⟩ := DataW.trod_int Try.underlying3 hf2
  obtain ⟨m1, rfl⟩ := okWide_int Try.underlying3 (hval 1 _ _ rfl rfl)
  obtain ⟨m2, rfl⟩ := okWide_int Try.underlying3 (hval 2 _ _ rfl rfl)
  simp [Value.cells] at e1 e2
  subst e1 e2
  have q1 := u_bounds w1
  have q2 := u_bounds w2
  refine (means_any W _ l0 _ _ hm0 hn0 q1.1 q1.2 q2.1 q2.2).mono fun e W' ⟨he, hb⟩ => ?_
  subst he
  exact ⟨_, rfl, post_true 4 laidOutTrue (by kernel_rfl) rfl Try.underlying4 rfl hW' rfl hb⟩

theorem diskmeans_holds : Rows.DiskMeansSaid :=
  OpenClaim.holds_of_wide 3 Try.f3 rfl rfl rfl rfl rfl rfl rfl ⟨rfl, rfl, rfl, rfl, rfl⟩ rfl rfl rfl rfl rfl (by kernel_rfl) Try.func3 (by kernel_rfl)
    (of_decide_eq_true (by kernel_rfl)) (by unfold Func.isWrapper; rw [if_neg (of_decide_eq_false (by kernel_rfl))]; exact ⟨rfl, rfl⟩)
    (fun os started H enc _ => diskmeans_lifted os started H enc)

end Go.Proofs.Ytbbbgpdhdlknjaa
