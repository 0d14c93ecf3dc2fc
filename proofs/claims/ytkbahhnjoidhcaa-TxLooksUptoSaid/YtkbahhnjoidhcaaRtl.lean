/- TxLooks: whether two are the same, whether they spend one outpoint, their amounts, and locks, is what the chapter says; a copy shares nothing. WHERE WHAT IT READS IS OF BULK AT MOST 1048576. -/
import Derived.Test.YtkbahhnjoidhcaaRowO
import Derived.Test.YtkbahhnjoidhcaaVp
namespace Go.Proofs.Ytkbahhnjoidhcaa
set_option linter.unusedVariables false
set_option linter.unusedSimpArgs false
open Go.ChangeShapes Go.WideShapes Go.ChangeAt Go.RowKit Go.Deep

set_option maxRecDepth 100000 in
set_option maxHeartbeats 1000000 in
theorem txlooks_contract (H : Type) (enc : TypeId × Value → H) (W : World) (base : Nat) (args : Array Value) (ds gs : List (DataW H)) (before : List MemPlace)
    (hval0 : ∀ (j : Nat) t v, Try.f5.params[j]? = some t → args[j]? = some v → Value.okWide Try.prog W .any base t v)
    (hW : DataW.Whole enc Try.prog Try.f5.params.toList Rows.txLooksSpec.vars false W args.toList ds gs before) (hk : Rows.uptoSmall H (ds ++ gs) = true) :
    Calls Try.prog 5 args W fun e W' => ∃ v, e = .returned v ∧ Rows.txLooksSpec.post enc Try.prog Try.f5 false true false false W args v W' := by
  have hval : ∀ (j : Nat) t v, Try.f5.params[j]? = some t → args[j]? = some v → Value.okWide Try.prog W .any base t v := hval0
  have hW' := hW
  obtain ⟨p, q, hA0, hV, rfl, hfz, hnd⟩ := hW
  have hA : DataW.TrodAll enc Try.prog W 0 (fun _ => true) true Try.f5.params.toList args.toList ds p := hA0
  rw [Try.params5] at hA hval
  obtain ⟨u0, u1, u2, d0, d1, d2, p0, p1, p2, rfl, rfl, rfl, h0, h1, h2⟩ := tA3 hA
  obtain ⟨rfl, rfl⟩ := trodVars_none hV
  have hB : Rows.uptoBulkAll ([d0, d1, d2] : List (DataW H)) ≤ 1048576 := by
    have h : Rows.uptoBulkAll ([d0, d1, d2] ++ []) ≤ 1048576 := of_decide_eq_true hk
    rwa [List.append_nil] at h
  have hb0 : Rows.uptoBulk (d0, p0).1 ≤ 1048576 := Nat.le_trans (bulk_part (by simp)) hB
  have hb1 : Rows.uptoBulk (d1, p1).1 ≤ 1048576 := Nat.le_trans (bulk_part (by simp)) hB
  have hb2 : Rows.uptoBulk (d2, p2).1 ≤ 1048576 := Nat.le_trans (bulk_part (by simp)) hB
  obtain ⟨fuel0, hf0⟩ := h0
  obtain ⟨cs0, rfl⟩ := okW_struct Try.underlying37 (hval 0 _ _ rfl rfl)
  obtain ⟨z0, hv0, hi0, ho0, hw0, hs0⟩ := openb_tx hf0 hb0
  simp only [Value.cells] at hv0
  have hc0 : cs0 = (txC z0).toArray := by rw [← hv0]
  subst hc0
  obtain ⟨fuel1, hf1⟩ := h1
  obtain ⟨cs1, rfl⟩ := okW_struct Try.underlying37 (hval 1 _ _ rfl rfl)
  obtain ⟨z1, hv1, hi1, ho1, hw1, hs1⟩ := openb_tx hf1 hb1
  simp only [Value.cells] at hv1
  have hc1 : cs1 = (txC z1).toArray := by rw [← hv1]
  subst hc1
  obtain ⟨fuel2, hf2⟩ := h2
  obtain ⟨a2, len2, cap2, rfl⟩ := okWide_slice Try.underlying42 (hval 2 _ _ rfl rfl)
  obtain ⟨v2, l2, hv2, hm2, hl2⟩ := openb_bytes hf2 hb2
  simp only [Value.cells, List.cons.injEq, and_true] at hv2
  subst hv2
  refine (txlooks_any (fun _ => True) (fun _ => True) W z0.1 z1.1 z0.2 z1.2 _ l2 hi0 ho0 hi1 ho1 hw0 ⟨by have := hs0.1; omega, by have := hs0.2.1; omega, fun i hi => by have := hs0.2.2 i hi; omega⟩ hm2).mono fun e W' ⟨he, hb⟩ => ?_
  subst he
  exact ⟨_, rfl, post_true 4 laidOutTrue (by kernel_rfl) rfl Try.underlying4 rfl hW' rfl hb⟩

set_option maxRecDepth 100000 in
set_option maxHeartbeats 1000000 in
theorem txlooks_lifted (os : Os) (started : os.Started) (H : Type) (enc : TypeId × Value → H) (F : Stop.Interp) :
    ReturnsInHanded {} Try.checked os 5 .any ((Rows.OpenSpec.upto Rows.txLooksSpec).pre6 enc Try.prog Try.f5 Rows.txLooksUptoRow.domain false) (((Rows.OpenSpec.upto Rows.txLooksSpec).at F).post enc Try.prog Try.f5 false true false false) := by
  refine returnsInHanded_of_cond (C := Try.checked) (s := Rows.OpenSpec.upto Rows.txLooksSpec) (k := Rows.uptoSmall) rfl ownKnobNone started (by kernel_rfl) Try.func5
    (OpenSpec.witness (enc := enc) (C := Try.checked) (s := Rows.OpenSpec.upto Rows.txLooksSpec) (k := Rows.uptoSmall) rfl false ⟨#[], #[.agg #[.slice none 0 0, .slice none 0 0, .int .u64 0], .agg #[.slice none 0 0, .slice none 0 0, .int .u64 0], .slice none 0 0], []⟩ 8 (by kernel_rfl) (by kernel_rfl) (by kernel_rfl)
      (x := ([.agg [.nil, .nil, .lit (.int .u64 0)], .agg [.nil, .nil, .lit (.int .u64 0)], .nil], [], [])) (by kernel_rfl) rfl (by kernel_rfl)) ?_
  intro W base args ds gs before hval hW _ hk _
  exact txlooks_contract H enc W base args ds gs before hval hW hk

theorem txlooks_holds : Rows.TxLooksUptoSaid :=
  OpenClaim.holds_of_cond 5 Try.f5 rfl rfl rfl rfl rfl rfl rfl ⟨rfl, rfl, rfl, rfl, rfl⟩ rfl rfl rfl rfl rfl (by kernel_rfl) Try.func5 (by kernel_rfl)
    (of_decide_eq_true (by kernel_rfl)) (by unfold Func.isWrapper; rw [if_neg (of_decide_eq_false (by kernel_rfl))]; exact ⟨rfl, rfl⟩)
    (fun os started H enc _ F => txlooks_lifted os started H enc F)

end Go.Proofs.Ytkbahhnjoidhcaa
