/- ShaSums: the hash of parts, and under a name, is the chapter's. No condition beside the statement's own. -/
import Derived.Test.YtdljpgihfjpnjaaRows
import Derived.Test.YtdljpgihfjpnjaaRowB
import Derived.Test.YtdljpgihfjpnjaaSd
namespace Go.Proofs.Ytdljpgihfjpnjaa
set_option linter.unusedVariables false
set_option linter.unusedSimpArgs false
open Go.ChangeShapes Go.WideShapes Go.ChangeAt Go.RowKit Go.Deep

section
variable {H : Type} {enc : TypeId × Value → H} {P : Program} {w : World}

def SliceAt (w : World) (b o : Nat) (x : List UInt8) : Prop := ∃ u, w.cell? ⟨b, o, none⟩ = some u ∧ Rd w 1 u x.length (bvs x)

/-- A slice of slices of bytes. -/
theorem opened_parts {t e f : TypeId} {fuel : Nat} {cs : List Value} {x : DataW H × List MemPlace} (ht : P.underlying t = some (.slice e)) (he : P.underlying e = some (.slice f)) (hf : P.underlying f = some (.int .u8)) (hC : P.cellsOf e = 1) (hC' : P.cellsOf f = 1)
    (h : DataW.trod enc P w 0 (fun _ => true) true fuel t cs = some x) : ∃ (v : Value) (L : List (List UInt8)), cs = [v] ∧ Pts w v L := by
  obtain ⟨v, L, hv, hs⟩ := opened_slice (R := SliceAt) ht hC (by decide) (fun fuel cs' y hy hl => by
    obtain ⟨u, l, rfl, hr⟩ := opened_bytes he hf hC' hy
    exact ⟨l, fun b o hat => ⟨u, hat.cell0', hr⟩⟩) h
  refine ⟨v, L, hv, ?_⟩
  rcases hs with ⟨rfl, a, c, rfl⟩ | ⟨b, off, c, rfl, h1, h2, h3⟩
  · refine ⟨[], ⟨rfl, ?_⟩, fun i x hx => by simp at hx⟩
    rcases open_slice ht h with ⟨h0, _⟩ | ⟨a', len, cap, m, n, D, Pl, hcs, hb, hl, hm, hmm, hx, hi⟩
    · rw [hv] at h0; simp at h0; exact .inl ⟨by simp [h0], rfl⟩
    · rw [hv] at hcs
      simp at hcs
      obtain ⟨rfl, rfl, rfl⟩ := hcs
      exact .inr ⟨a', c, rfl, hl, hm, fun j u hj => by simp at hj⟩
  · have hall : ∀ i, i < L.length → ∃ u : Value, w.cell? ⟨b, off + i, none⟩ = some u ∧ ∀ x, L[i]? = some x → Rd w 1 u x.length (bvs x) := by
      intro i hi
      obtain ⟨u, hu, hr⟩ := h3 i _ (List.getElem?_eq_getElem hi)
      refine ⟨u, by rw [Nat.mul_one] at hu; exact hu, fun x hx => ?_⟩
      rw [List.getElem?_eq_getElem hi] at hx
      cases hx
      exact hr
    haveI : Inhabited Value := ⟨.slice none 0 0⟩
    obtain ⟨f', hf'⟩ := choose_lt hall
    refine ⟨(List.range L.length).map f', ⟨by simp, .inr ⟨⟨b, off, none⟩, c, rfl, h1, h2, fun j u hj => ?_⟩⟩, fun i x hx => ?_⟩
    · simp only [List.getElem?_map, Option.map_eq_some_iff] at hj
      obtain ⟨k, hk, rfl⟩ := hj
      have hjl : j < L.length := by
        rcases Nat.lt_or_ge j L.length with h | h
        · exact h
        · rw [List.getElem?_eq_none (by simpa using h)] at hk; cases hk
      rw [List.getElem?_range hjl] at hk
      cases hk
      rw [add_at]
      exact (hf' j hjl).1
    · have hil := (List.getElem?_eq_some_iff.1 hx).1
      exact ⟨f' i, by simp [hil], (hf' i hil).2 x hx⟩

end

set_option maxRecDepth 100000 in
theorem shasums_lifted (os : Os) (started : os.Started) (H : Type) (enc : TypeId × Value → H) :
    ReturnsInHanded {} Try.checked os 7 .any (Rows.shaSumsSpec.pre6 enc Try.prog Try.f7 Rows.shaSumsRow.domain false) (Rows.shaSumsSpec.post enc Try.prog Try.f7 false true false false) := by
  refine returnsInHanded_of_change (C := Try.checked) ownKnobNone started (by kernel_rfl) Try.func7
    (ChangeSpec.witness6 (enc := enc) (C := Try.checked) false ⟨#[], #[.slice none 0 0, .string ⟨#[]⟩], []⟩ 8 (by kernel_rfl) (by kernel_rfl) (by kernel_rfl) (by kernel_rfl)) ?_
  intro W base args ds gs before hval0 hW hcnd _
  have hval : ∀ (j : Nat) t v, Try.f7.params[j]? = some t → args[j]? = some v → Value.okWide Try.prog W .any base t v := hval0
  have hW' := hW
  obtain ⟨p, q, hA0, hV, rfl, hfz, hnd⟩ := hW
  have hA : DataW.TrodAll enc Try.prog W 0 (fun _ => true) true Try.f7.params.toList args.toList ds p := hA0
  rw [Try.params7] at hA hval
  obtain ⟨v0, v1, d0, d1, p0, p1, rfl, rfl, rfl, h0, h1⟩ := trodAll_two hA
  obtain ⟨rfl, rfl⟩ := trodVars_none hV
  obtain ⟨a, len, cap, rfl⟩ := okWide_slice Try.underlying64 (hval 0 _ _ rfl rfl)
  obtain ⟨s, rfl⟩ := okWide_string Try.underlying9 (hval 1 _ _ rfl rfl)
  obtain ⟨fuel, hf⟩ := h0
  obtain ⟨v, L, hv, hp⟩ := opened_parts Try.underlying64 Try.underlying25 Try.underlying5 cellsBytes cellsU8 hf
  simp only [Value.cells, List.cons.injEq, and_true] at hv
  subst hv
  refine (sums_any W _ L s.data.toList hp).mono fun e W' ⟨he, hb⟩ => ?_
  subst he
  exact ⟨_, rfl, post_true 4 laidOutTrue (by kernel_rfl) rfl Try.underlying4 rfl hW' rfl hb⟩

theorem shasums_holds : Rows.ShaSumsSaid :=
  OpenClaim.holds_of_wide 7 Try.f7 rfl rfl rfl rfl rfl rfl rfl ⟨rfl, rfl, rfl, rfl, rfl⟩ rfl rfl rfl rfl rfl (by kernel_rfl) Try.func7 (by kernel_rfl)
    (of_decide_eq_true (by kernel_rfl)) (by unfold Func.isWrapper; rw [if_neg (of_decide_eq_false (by kernel_rfl))]; exact ⟨rfl, rfl⟩)
    (fun os started H enc _ => shasums_lifted os started H enc)

end Go.Proofs.Ytdljpgihfjpnjaa
