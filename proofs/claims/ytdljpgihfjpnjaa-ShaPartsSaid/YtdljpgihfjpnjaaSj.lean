/- ShaParts: the words of the start, the constants, and a state into which a block was pressed, are the chapter's. No condition beside the statement's own. -/
import Derived.Test.YtdljpgihfjpnjaaRows
import Derived.Test.YtdljpgihfjpnjaaRowB
import Derived.Test.YtdljpgihfjpnjaaSg
namespace Go.Proofs.Ytdljpgihfjpnjaa
set_option linter.unusedVariables false
set_option linter.unusedSimpArgs false
open Go.ChangeShapes Go.WideShapes Go.ChangeAt Go.RowKit Go.Deep

section
variable {H : Type} {enc : TypeId × Value → H} {P : Program} {w : World}

theorem word_of_wf {n : Int} (h : (Lit.int .u32 n).wf = true) : ∃ x : W32, Value.int .u32 n = wd x := by
  have h1 : IntKind.u32.min = 0 := rfl
  have h2 : IntKind.u32.max = 4294967295 := rfl
  simp only [Lit.wf, Bool.and_eq_true, decide_eq_true_eq, h1, h2] at h
  refine ⟨BitVec.ofNat 32 n.toNat, ?_⟩
  unfold wd
  rw [BitVec.toNat_ofNat, Nat.mod_eq_of_lt (by omega)]
  congr 1
  omega

theorem words_of_each (cs : List Value) (h : ∀ i, i < cs.length → ∃ b : W32, (cs.drop i).take 1 = [wd b]) : ∃ L : List W32, cs = wds L := by
  induction cs with
  | nil => exact ⟨[], rfl⟩
  | cons c cs ih =>
    obtain ⟨b, hb⟩ := h 0 (by simp)
    simp at hb
    obtain ⟨L, hL⟩ := ih (fun i hi => by
      have := h (i + 1) (by simp; omega)
      simpa using this)
    exact ⟨b :: L, by rw [hb, hL]; rfl⟩

/-- An array of words. -/
theorem opened_words {t e : TypeId} {n fuel : Nat} {cs : List Value} {x : DataW H × List MemPlace} (ht : P.underlying t = some (.array n e)) (he : P.underlying e = some (.int .u32)) (hC : P.cellsOf e = 1) (hT : P.cellsOf t = n)
    (h : DataW.trod enc P w 0 (fun _ => true) true fuel t cs = some x) : ∃ L : List W32, cs = wds L ∧ L.length = n := by
  obtain ⟨xs, m, _, _, hl, hxs, hi⟩ := DataW.trod_array ht h
  rw [hT] at hl
  obtain ⟨L, hL⟩ := words_of_each cs (fun i hlt => by
    have h1 := hi i (by omega)
    rw [hC, Nat.mul_one] at h1
    have h2 : xs[i]? = some (xs[i]'(by omega)) := List.getElem?_eq_getElem (by omega)
    rw [h2] at h1
    obtain ⟨n, hn, _, hw⟩ := DataW.trod_int he h1
    obtain ⟨b, hb⟩ := word_of_wf hw
    exact ⟨b, by rw [hn, hb]⟩)
  exact ⟨L, hL, by rw [← hl, hL]; simp⟩

theorem okWide_arr' {r : Reach} {b0 : Nat} {t e : TypeId} {n : Nat} {v : Value} (ht : P.underlying t = some (.array n e)) (h : Value.okWide P w r b0 t v) : ∃ cs, v = .agg cs := by
  unfold Value.okWide at h
  rw [ht] at h
  obtain ⟨cs, h1, _⟩ := h
  exact ⟨cs, h1⟩

theorem St.of8 (L : List W32) (h : L.length = 8) : ∃ s : St, L = s.l := by
  obtain ⟨a, b, c, d, e, f, g, k, rfl⟩ : ∃ a b c d e f g k, L = [a, b, c, d, e, f, g, k] := by
    rcases L with _ | ⟨a, _ | ⟨b, _ | ⟨c, _ | ⟨d, _ | ⟨e, _ | ⟨f, _ | ⟨g, _ | ⟨k, _ | ⟨z, r⟩⟩⟩⟩⟩⟩⟩⟩⟩ <;> simp at h
    exact ⟨a, b, c, d, e, f, g, k, rfl⟩
  exact ⟨⟨a, b, c, d, e, f, g, k⟩, rfl⟩
end

theorem cellsU32 : Try.prog.cellsOf 76 = 1 := by kernel_rfl
theorem cellsW8 : Try.prog.cellsOf 78 = 8 := by kernel_rfl
theorem cellsB64 : Try.prog.cellsOf 79 = 64 := by kernel_rfl

set_option maxRecDepth 100000 in
theorem shaparts_lifted (os : Os) (started : os.Started) (H : Type) (enc : TypeId × Value → H) :
    ReturnsInHanded {} Try.checked os 10 .any (Rows.shaPartsSpec.pre6 enc Try.prog Try.f10 Rows.shaPartsRow.domain false) (Rows.shaPartsSpec.post enc Try.prog Try.f10 false true false false) := by
  refine returnsInHanded_of_change (C := Try.checked) ownKnobNone started (by kernel_rfl) Try.func10
    (ChangeSpec.witness6 (enc := enc) (C := Try.checked) false ⟨#[], #[.int .i64 0, .agg #[.int .u32 0, .int .u32 0, .int .u32 0, .int .u32 0, .int .u32 0, .int .u32 0, .int .u32 0, .int .u32 0], .agg #[.int .u8 0, .int .u8 0, .int .u8 0, .int .u8 0, .int .u8 0, .int .u8 0, .int .u8 0, .int .u8 0, .int .u8 0, .int .u8 0, .int .u8 0, .int .u8 0, .int .u8 0, .int .u8 0, .int .u8 0, .int .u8 0, .int .u8 0, .int .u8 0, .int .u8 0, .int .u8 0, .int .u8 0, .int .u8 0, .int .u8 0, .int .u8 0, .int .u8 0, .int .u8 0, .int .u8 0, .int .u8 0, .int .u8 0, .int .u8 0, .int .u8 0, .int .u8 0, .int .u8 0, .int .u8 0, .int .u8 0, .int .u8 0, .int .u8 0, .int .u8 0, .int .u8 0, .int .u8 0, .int .u8 0, .int .u8 0, .int .u8 0, .int .u8 0, .int .u8 0, .int .u8 0, .int .u8 0, .int .u8 0, .int .u8 0, .int .u8 0, .int .u8 0, .int .u8 0, .int .u8 0, .int .u8 0, .int .u8 0, .int .u8 0, .int .u8 0, .int .u8 0, .int .u8 0, .int .u8 0, .int .u8 0, .int .u8 0, .int .u8 0, .int .u8 0]], []⟩ 8 (by kernel_rfl) (by kernel_rfl) (by kernel_rfl) (by kernel_rfl)) ?_
  intro W base args ds gs before hval0 hW hcnd _
  have hval : ∀ (j : Nat) t v, Try.f10.params[j]? = some t → args[j]? = some v → Value.okWide Try.prog W .any base t v := hval0
  have hW' := hW
  obtain ⟨p, q, hA0, hV, rfl, hfz, hnd⟩ := hW
  have hA : DataW.TrodAll enc Try.prog W 0 (fun _ => true) true Try.f10.params.toList args.toList ds p := hA0
  rw [Try.params10] at hA hval
  obtain ⟨v0, v1, v2, d0, d1, d2, p0, p1, p2, rfl, rfl, rfl, h0, h1, h2⟩ := trodAll_three hA
  obtain ⟨rfl, rfl⟩ := trodVars_none hV
  have hs0 := hval 0 _ _ rfl rfl
  have hs1 := hval 1 _ _ rfl rfl
  have hs2 := hval 2 _ _ rfl rfl
  obtain ⟨fuel, hf⟩ := h0
  obtain ⟨fuel1, hf1⟩ := h1
  obtain ⟨fuel2, hf2⟩ := h2
  obtain ⟨cs1, rfl⟩ := okWide_arr' Try.underlying78 hs1
  obtain ⟨cs2, rfl⟩ := okWide_arr' Try.underlying79 hs2
  obtain ⟨L, hL, hL8⟩ := opened_words Try.underlying78 Try.underlying76 cellsU32 cellsW8 hf1
  obtain ⟨l, hl, hl64⟩ := opened_array Try.underlying79 Try.underlying5 cellsU8 cellsB64 hf2
  obtain ⟨s, rfl⟩ := St.of8 L hL8
  obtain ⟨n, hn, _, _⟩ := DataW.trod_int Try.underlying3 hf
  simp only [Value.cells] at hL hl
  have hc1 : cs1 = (wds s.l).toArray := by rw [← hL]
  have hc2 : cs2 = (bvs l).toArray := by rw [← hl]
  subst hc1 hc2
  have hv0 : v0 = .int .i64 n := by
    obtain ⟨k, rfl⟩ := okWide_int Try.underlying3 hs0
    simpa [Value.cells] using hn
  subst hv0
  refine (parts_any W n s l hl64).mono fun e W' ⟨he, hb⟩ => ?_
  subst he
  exact ⟨_, rfl, post_true 4 laidOutTrue (by kernel_rfl) rfl Try.underlying4 rfl hW' rfl hb⟩

theorem shaparts_holds : Rows.ShaPartsSaid :=
  OpenClaim.holds_of_wide 10 Try.f10 rfl rfl rfl rfl rfl rfl rfl ⟨rfl, rfl, rfl, rfl, rfl⟩ rfl rfl rfl rfl rfl (by kernel_rfl) Try.func10 (by kernel_rfl)
    (of_decide_eq_true (by kernel_rfl)) (by unfold Func.isWrapper; rw [if_neg (of_decide_eq_false (by kernel_rfl))]; exact ⟨rfl, rfl⟩)
    (fun os started H enc _ => shaparts_lifted os started H enc)

end Go.Proofs.Ytdljpgihfjpnjaa
