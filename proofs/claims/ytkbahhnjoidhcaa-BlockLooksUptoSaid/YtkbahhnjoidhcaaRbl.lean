/- BlockLooks: whether two blocks, two headers, are the same is what the chapter says; a copy shares nothing. WHERE WHAT IT READS IS OF BULK AT MOST 1048576. -/
import Derived.Test.YtkbahhnjoidhcaaRowO
import Derived.Test.YtkbahhnjoidhcaaXt
namespace Go.Proofs.Ytkbahhnjoidhcaa
set_option linter.unusedVariables false
set_option linter.unusedSimpArgs false
open Go.ChangeShapes Go.WideShapes Go.ChangeAt Go.RowKit Go.Deep

set_option maxRecDepth 100000 in
set_option maxHeartbeats 1000000 in
theorem blocklooks_contract (H : Type) (enc : TypeId × Value → H) (W : World) (base : Nat) (args : Array Value) (ds gs : List (DataW H)) (before : List MemPlace)
    (hval0 : ∀ (j : Nat) t v, Try.f3.params[j]? = some t → args[j]? = some v → Value.okWide Try.prog W .any base t v)
    (hW : DataW.Whole enc Try.prog Try.f3.params.toList Rows.blockLooksSpec.vars false W args.toList ds gs before) (hk : Rows.uptoSmall H (ds ++ gs) = true) :
    Calls Try.prog 3 args W fun e W' => ∃ v, e = .returned v ∧ Rows.blockLooksSpec.post enc Try.prog Try.f3 false true false false W args v W' := by
  have hval : ∀ (j : Nat) t v, Try.f3.params[j]? = some t → args[j]? = some v → Value.okWide Try.prog W .any base t v := hval0
  have hW' := hW
  obtain ⟨p, q, hA0, hV, rfl, hfz, hnd⟩ := hW
  have hA : DataW.TrodAll enc Try.prog W 0 (fun _ => true) true Try.f3.params.toList args.toList ds p := hA0
  rw [Try.params3] at hA hval
  obtain ⟨u0, u1, d0, d1, p0, p1, rfl, rfl, rfl, h0, h1⟩ := tA2 hA
  obtain ⟨rfl, rfl⟩ := trodVars_none hV
  have hB : Rows.uptoBulkAll ([d0, d1] : List (DataW H)) ≤ 1048576 := by
    have h : Rows.uptoBulkAll ([d0, d1] ++ []) ≤ 1048576 := of_decide_eq_true hk
    rwa [List.append_nil] at h
  have hb0 : Rows.uptoBulk (d0, p0).1 ≤ 1048576 := Nat.le_trans (bulk_part (by simp)) hB
  have hb1 : Rows.uptoBulk (d1, p1).1 ≤ 1048576 := Nat.le_trans (bulk_part (by simp)) hB
  obtain ⟨fuel0, hf0⟩ := h0
  obtain ⟨cs0, rfl⟩ := okW_struct Try.underlying30 (hval 0 _ _ rfl rfl)
  obtain ⟨z0, v0, t0, hv0, ok0, hs0, ht0, hp0, hn0, hl0, hall0⟩ := openb_block hf0 hb0
  simp only [Value.cells] at hv0
  have hc0 : cs0 = (blC z0 v0 t0).toArray := by rw [← hv0]
  subst hc0
  obtain ⟨fuel1, hf1⟩ := h1
  obtain ⟨cs1, rfl⟩ := okW_struct Try.underlying30 (hval 1 _ _ rfl rfl)
  obtain ⟨z1, v1, t1, hv1, ok1, hs1, ht1, hp1, hn1, hl1, hall1⟩ := openb_block hf1 hb1
  simp only [Value.cells] at hv1
  have hc1 : cs1 = (blC z1 v1 t1).toArray := by rw [← hv1]
  subst hc1
  refine (blocklooks_any (fun _ => True) W z0 z1 v0 t0 v1 t1 ok0 ok1 hs0 hs1 ht0 ht1 ⟨by omega, by omega, fun y hy => ⟨by have := (hall0 y hy).2.1; omega, by have := (hall0 y hy).2.2.1; omega, fun i hi => by have := (hall0 y hy).2.2.2 i hi; omega⟩⟩).mono fun e W' ⟨he, hb⟩ => ?_
  subst he
  exact ⟨_, rfl, post_true 4 laidOutTrue (by kernel_rfl) rfl Try.underlying4 rfl hW' rfl hb⟩

set_option maxRecDepth 100000 in
set_option maxHeartbeats 1000000 in
theorem blocklooks_lifted (os : Os) (started : os.Started) (H : Type) (enc : TypeId × Value → H) (F : Stop.Interp) :
    ReturnsInHanded {} Try.checked os 3 .any ((Rows.OpenSpec.upto Rows.blockLooksSpec).pre6 enc Try.prog Try.f3 Rows.blockLooksUptoRow.domain false) (((Rows.OpenSpec.upto Rows.blockLooksSpec).at F).post enc Try.prog Try.f3 false true false false) := by
  refine returnsInHanded_of_cond (C := Try.checked) (s := Rows.OpenSpec.upto Rows.blockLooksSpec) (k := Rows.uptoSmall) rfl ownKnobNone started (by kernel_rfl) Try.func3
    (OpenSpec.witness (enc := enc) (C := Try.checked) (s := Rows.OpenSpec.upto Rows.blockLooksSpec) (k := Rows.uptoSmall) rfl false ⟨#[], #[.agg zeroBl.toArray, .agg zeroBl.toArray], []⟩ 8 (by kernel_rfl) (by kernel_rfl) (by kernel_rfl)
      (x := ([.agg [.agg [.nil, (.agg (List.replicate 32 (.lit (.int .u8 0)))), (.agg (List.replicate 32 (.lit (.int .u8 0)))), (.agg (List.replicate 32 (.lit (.int .u8 0)))), (.agg (List.replicate 32 (.lit (.int .u8 0)))), .lit (.int .u64 0)], .nil], .agg [.agg [.nil, (.agg (List.replicate 32 (.lit (.int .u8 0)))), (.agg (List.replicate 32 (.lit (.int .u8 0)))), (.agg (List.replicate 32 (.lit (.int .u8 0)))), (.agg (List.replicate 32 (.lit (.int .u8 0)))), .lit (.int .u64 0)], .nil]], [], [])) (by kernel_rfl) rfl (by kernel_rfl)) ?_
  intro W base args ds gs before hval hW _ hk _
  exact blocklooks_contract H enc W base args ds gs before hval hW hk

theorem blocklooks_holds : Rows.BlockLooksUptoSaid :=
  OpenClaim.holds_of_cond 3 Try.f3 rfl rfl rfl rfl rfl rfl rfl ⟨rfl, rfl, rfl, rfl, rfl⟩ rfl rfl rfl rfl rfl (by kernel_rfl) Try.func3 (by kernel_rfl)
    (of_decide_eq_true (by kernel_rfl)) (by unfold Func.isWrapper; rw [if_neg (of_decide_eq_false (by kernel_rfl))]; exact ⟨rfl, rfl⟩)
    (fun os started H enc _ F => blocklooks_lifted os started H enc F)

end Go.Proofs.Ytkbahhnjoidhcaa
