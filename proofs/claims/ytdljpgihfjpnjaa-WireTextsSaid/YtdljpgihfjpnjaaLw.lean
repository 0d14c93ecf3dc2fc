/- WireWrites: what is put, part by part, is the chapter's bytes, or the writer fails, and stays failed. No condition beside the statement's own. -/
import Derived.Test.YtdljpgihfjpnjaaRows
import Derived.Test.YtdljpgihfjpnjaaLd
import Derived.Test.YtdljpgihfjpnjaaRowKit
import Derived.Test.YtdljpgihfjpnjaaOpen
namespace Go.Proofs.Ytdljpgihfjpnjaa
set_option linter.unusedVariables false
set_option linter.unusedSimpArgs false
open Go.ChangeShapes Go.WideShapes Go.ChangeAt Go.RowKit Go.Deep

theorem ownKnobNone : ownKnob Try.prog.godebug = none := by kernel_rfl
theorem laidOutTrue : laidOutB Try.prog = true := by kernel_rfl
theorem cellsU8 : Try.prog.cellsOf 5 = 1 := by kernel_rfl
theorem cellsPart : Try.prog.cellsOf 32 = 36 := by kernel_rfl
theorem cellsHash : Try.prog.cellsOf 30 = 32 := by kernel_rfl
theorem cellsI64 : Try.prog.cellsOf 3 = 1 := by kernel_rfl
theorem cellsU64 : Try.prog.cellsOf 28 = 1 := by kernel_rfl
theorem cellsBytes : Try.prog.cellsOf 25 = 1 := by kernel_rfl

instance : Inhabited PartD := ⟨⟨0, 0, 0, [], []⟩⟩

theorem u64_of_wf {n : Int} (h : (Lit.int .u64 n).wf = true) : ∃ m : Nat, n = (m : Int) ∧ m < 18446744073709551616 := by
  have h1 : IntKind.u64.min = 0 := rfl
  have h2 : IntKind.u64.max = 18446744073709551615 := rfl
  simp only [Lit.wf, Bool.and_eq_true, decide_eq_true_eq, h1, h2] at h
  exact ⟨n.toNat, by omega, by omega⟩

section
variable {H : Type} {enc : TypeId × Value → H} {w : World}

theorem opened_part {fuel : Nat} {cs : List Value} {y : DataW H × List MemPlace}
    (h : DataW.trod enc Try.prog w 0 (fun _ => true) true fuel 32 cs = some y) (hl : cs.length = 36) :
    ∃ x : PartD, ∀ b o, At w b o cs → PartAt w b o x := by
  obtain ⟨_, n, hf⟩ := opened_struct Try.underlying32 h
  obtain ⟨c0, c1, c2, c3, rest, rfl⟩ : ∃ c0 c1 c2 c3 rest, cs = c0 :: c1 :: c2 :: c3 :: rest := by
    rcases cs with _ | ⟨c0, _ | ⟨c1, _ | ⟨c2, _ | ⟨c3, rest⟩⟩⟩⟩
    · simp at hl
    · simp at hl
    · simp at hl
    · simp at hl
    · exact ⟨c0, c1, c2, c3, rest, rfl⟩
  · obtain ⟨y0, f0⟩ := hf 0 3 0 1 rfl cellsI64
    obtain ⟨y1, f1⟩ := hf 1 3 1 1 rfl cellsI64
    obtain ⟨y2, f2⟩ := hf 2 28 2 1 rfl cellsU64
    obtain ⟨y3, f3⟩ := hf 3 25 3 1 rfl cellsBytes
    obtain ⟨y4, f4⟩ := hf 4 30 4 32 rfl cellsHash
    simp only [List.drop_zero, List.drop_succ_cons, List.take_succ_cons, List.take_zero] at f0 f1 f2 f3 f4
    obtain ⟨k, e0, _, _⟩ := DataW.trod_int Try.underlying3 f0
    obtain ⟨s, e1, _, _⟩ := DataW.trod_int Try.underlying3 f1
    obtain ⟨m, e2, _, wm⟩ := DataW.trod_int Try.underlying28 f2
    obtain ⟨v, L, e3, hrd⟩ := opened_bytes Try.underlying25 Try.underlying5 cellsU8 f3
    obtain ⟨hh, e4, h32⟩ := opened_array Try.underlying30 Try.underlying5 cellsU8 cellsHash f4
    obtain ⟨mn, rfl, hmn⟩ := u64_of_wf wm
    simp at e0 e1 e2 e3
    subst e0 e1 e2 e3
    have hr : rest.take 32 = rest := List.take_of_length_le (by simp at hl; omega)
    rw [hr] at e4
    subst e4
    exact ⟨⟨k, s, mn, L, hh⟩, fun b o hat => ⟨hmn, h32, c3, hrd, hat⟩⟩

end

set_option maxRecDepth 100000 in
theorem writes_lifted (os : Os) (started : os.Started) (H : Type) (enc : TypeId × Value → H) :
    ReturnsInHanded {} Try.checked os 3 .any (Rows.wireWritesSpec.pre6 enc Try.prog Try.f3 Rows.wireWritesRow.domain false) (Rows.wireWritesSpec.post enc Try.prog Try.f3 false true false false) := by
  refine returnsInHanded_of_change (C := Try.checked) ownKnobNone started (by kernel_rfl) Try.func3
    (ChangeSpec.witness6 (enc := enc) (C := Try.checked) false ⟨#[], #[.slice none 0 0], []⟩ 8 (by kernel_rfl) (by kernel_rfl) (by kernel_rfl) (by kernel_rfl)) ?_
  intro W base args ds gs before hval0 hW hcnd _
  have hval : ∀ (j : Nat) t v, Try.f3.params[j]? = some t → args[j]? = some v → Value.okWide Try.prog W .any base t v := hval0
  have hW' := hW
  obtain ⟨p, q, hA0, hV, rfl, hfz, hnd⟩ := hW
  have hA : DataW.TrodAll enc Try.prog W 0 (fun _ => true) true Try.f3.params.toList args.toList ds p := hA0
  rw [Try.params3] at hA hval
  obtain ⟨v0, d0, rfl, rfl, h0⟩ := trodAll_one hA
  obtain ⟨rfl, rfl⟩ := trodVars_none hV
  obtain ⟨a, len, cap, rfl⟩ := okWide_slice Try.underlying22 (hval 0 _ _ rfl rfl)
  obtain ⟨fuel, hf⟩ := h0
  obtain ⟨v, l, hv, hs⟩ := opened_slice (R := PartAt) Try.underlying22 cellsPart (by decide) (fun fuel cs y hy hl => opened_part hy hl) hf
  simp [Value.cells] at hv
  subst hv
  refine (writes_any W _ l hs).mono fun e W' ⟨he, hb⟩ => ?_
  subst he
  exact ⟨_, rfl, post_true 4 laidOutTrue (by kernel_rfl) rfl Try.underlying4 rfl hW' rfl hb⟩

theorem writes_holds : Rows.WireWritesSaid :=
  OpenClaim.holds_of_wide 3 Try.f3 rfl rfl rfl rfl rfl rfl rfl ⟨rfl, rfl, rfl, rfl, rfl⟩ rfl rfl rfl rfl rfl (by kernel_rfl) Try.func3 (by kernel_rfl)
    (of_decide_eq_true (by kernel_rfl)) (by unfold Func.isWrapper; rw [if_neg (of_decide_eq_false (by kernel_rfl))]; exact ⟨rfl, rfl⟩)
    (fun os started H enc _ => writes_lifted os started H enc)

end Go.Proofs.Ytdljpgihfjpnjaa
