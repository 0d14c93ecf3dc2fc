/- What the arguments of a law read as, over any program: bytes, arrays of bytes, slices of whatever elements. -/
import Derived.Test.YtbabjepblakboaaAgg
import Derived.ProofKit
import Derived.OpenShut
import Derived.Deep.Slices
namespace Go.Proofs.Ytbabjepblakboaa
set_option linter.unusedVariables false
set_option linter.unusedSimpArgs false
open Go.ChangeShapes Go.WideShapes Go.ChangeAt Go.RowKit Go.Deep

section
variable {H : Type} {enc : TypeId × Value → H} {P : Program} {w : World}

theorem byte_of_wf {n : Int} (h : (Lit.int .u8 n).wf = true) : ∃ x : UInt8, Value.int .u8 n = bv x := by
  have h1 : IntKind.u8.min = 0 := rfl
  have h2 : IntKind.u8.max = 255 := rfl
  simp only [Lit.wf, Bool.and_eq_true, decide_eq_true_eq, h1, h2] at h
  refine ⟨UInt8.ofNat n.toNat, ?_⟩
  rw [bv_ofNat]
  congr 1
  omega

/-- A cell that reads as a byte. -/
theorem opened_u8 {e : TypeId} {fuel : Nat} {c : List Value} {x : DataW H × List MemPlace} (he : P.underlying e = some (.int .u8)) (h : DataW.trod enc P w 0 (fun _ => true) true fuel e c = some x) :
    ∃ b : UInt8, c = [bv b] := by
  obtain ⟨n, rfl, _, hw⟩ := DataW.trod_int he h
  obtain ⟨b, hb⟩ := byte_of_wf hw
  exact ⟨b, by rw [hb]⟩

theorem bytes_of_each (cs : List Value) (h : ∀ i, i < cs.length → ∃ b : UInt8, (cs.drop i).take 1 = [bv b]) : ∃ L : List UInt8, cs = bvs L := by
  induction cs with
  | nil => exact ⟨[], rfl⟩
  | cons c cs ih =>
    obtain ⟨b, hb⟩ := h 0 (by simp)
    simp at hb
    obtain ⟨L, hL⟩ := ih (fun i hi => by
      have := h (i + 1) (by simp; omega)
      simpa using this)
    exact ⟨b :: L, by rw [hb, hL]; rfl⟩

/-- An array of bytes. -/
theorem opened_array {t e : TypeId} {n fuel : Nat} {cs : List Value} {x : DataW H × List MemPlace} (ht : P.underlying t = some (.array n e)) (he : P.underlying e = some (.int .u8)) (hC : P.cellsOf e = 1) (hT : P.cellsOf t = n)
    (h : DataW.trod enc P w 0 (fun _ => true) true fuel t cs = some x) : ∃ L : List UInt8, cs = bvs L ∧ L.length = n := by
  obtain ⟨xs, m, _, _, hl, hxs, hi⟩ := DataW.trod_array ht h
  rw [hT] at hl
  obtain ⟨L, hL⟩ := bytes_of_each cs (fun i hlt => by
    have h1 := hi i (by omega)
    rw [hC, Nat.mul_one] at h1
    have h2 : xs[i]? = some (xs[i]'(by omega)) := List.getElem?_eq_getElem (by omega)
    rw [h2] at h1
    exact opened_u8 he h1)
  exact ⟨L, hL, by rw [← hl, hL]; simp⟩

/-- A struct: each field by its place: its type, its first cell, its cells. -/
theorem opened_struct {t : TypeId} {fs : Array Field} {fuel : Nat} {cs : List Value} {x : DataW H × List MemPlace} (ht : P.underlying t = some (.struct fs)) (h : DataW.trod enc P w 0 (fun _ => true) true fuel t cs = some x) :
    cs.length = P.cellsOf t ∧ ∃ n, ∀ (i ty off sz : Nat), (fs[i]?).map (fun f => (f.type, f.offset)) = some (ty, off) → P.cellsOf ty = sz → ∃ y, DataW.trod enc P w 0 (fun _ => true) true n ty ((cs.drop off).take sz) = some y := by
  obtain ⟨xs, n, _, _, hl, hxl, hf⟩ := DataW.trod_struct ht h
  refine ⟨hl, n, fun i ty off sz hi hsz => ?_⟩
  simp only [Option.map_eq_some_iff, Prod.mk.injEq] at hi
  obtain ⟨f, hf1, rfl, rfl⟩ := hi
  subst hsz
  have hlt : i < xs.length := by rw [hxl]; exact (Array.getElem?_eq_some_iff.1 hf1).1
  exact ⟨_, (hf i f hf1).trans (List.getElem?_eq_getElem hlt)⟩

/-- A slice of whatever elements: 'hel': what an element's cells are; R: what is said of an element at its place. -/
theorem opened_slice {α : Type} [Inhabited α] {R : World → Nat → Nat → α → Prop} {size : Nat} {t e : TypeId} {fuel : Nat} {cs : List Value} {x : DataW H × List MemPlace} (ht : P.underlying t = some (.slice e)) (hC : P.cellsOf e = size) (hpos : 0 < size)
    (hel : ∀ (fuel : Nat) (cs' : List Value) (y : DataW H × List MemPlace), DataW.trod enc P w 0 (fun _ => true) true fuel e cs' = some y → cs'.length = size → ∃ a : α, ∀ b o, At w b o cs' → R w b o a)
    (h : DataW.trod enc P w 0 (fun _ => true) true fuel t cs = some x) : ∃ (v : Value) (l : List α), cs = [v] ∧ Sl R size w v l := by
  rcases open_slice ht h with ⟨h0, _⟩ | ⟨a, len, cap, m, n, D, Pl, hcs, hb, hl, hm, hmm, hx, hi⟩
  · exact ⟨_, [], h0, .inl ⟨rfl, _, _, rfl⟩⟩
  · simp only [if_true] at hmm
    subst hmm
    rcases Nat.eq_zero_or_pos len with h0 | h0
    · subst h0
      exact ⟨_, [], hcs, .inl ⟨rfl, _, _, rfl⟩⟩
    obtain ⟨b, off, sp⟩ := a
    have hsp : sp = none := by
      obtain ⟨cs', h1, _⟩ := hi 0 (by omega)
      obtain ⟨_, h2, h3⟩ := World.cells?_some h1
      rw [hC] at h2 h3
      have h4 := h3 0 hpos
      simp only [Nat.zero_mul] at h4
      have : (cs'[0]?) = some (cs'[0]'(by omega)) := List.getElem?_eq_getElem (by omega)
      rw [this] at h4
      simp only [Addr.add, if_true] at h4
      unfold World.cell? at h4
      split at h4
      · split at h4
        · cases h4
        · cases sp <;> simp_all
      · cases h4
    subst hsp
    have hall : ∀ i, i < len → ∃ y : α, R w b (off + i * size) y := by
      intro i hil
      obtain ⟨cs', h1, h2⟩ := hi i (by omega)
      obtain ⟨_, h3, h4⟩ := World.cells?_some h1
      rw [hC] at h3 h4
      obtain ⟨y, hy⟩ := hel n cs' _ h2 h3
      refine ⟨y, hy b _ ?_⟩
      intro j u hj
      have hjs : j < size := by rw [← h3]; exact (List.getElem?_eq_some_iff.1 hj).1
      have := h4 j hjs
      rw [add_at, add_at] at this
      rw [this]; exact hj
    obtain ⟨f, hf⟩ := choose_lt hall
    refine ⟨_, (List.range len).map f, hcs, .inr ⟨b, off, m, by simp, by simpa using hl, hm, ?_⟩⟩
    intro i y hy
    simp only [List.getElem?_map, Option.map_eq_some_iff] at hy
    obtain ⟨j, hj, rfl⟩ := hy
    have hj' : i < len ∧ j = i := by
      rcases Nat.lt_or_ge i len with h | h
      · rw [List.getElem?_range h] at hj
        exact ⟨h, (Option.some.inj hj).symm⟩
      · rw [List.getElem?_eq_none (by simpa using h)] at hj
        cases hj
    obtain ⟨h1, rfl⟩ := hj'
    exact hf j h1

def ByteAt (w : World) (b o : Nat) (x : UInt8) : Prop := w.cell? ⟨b, o, none⟩ = some (bv x)

theorem Sl.rd {w : World} {v : Value} {l : List UInt8} (h : Sl ByteAt 1 w v l) (hv : v = .slice none 0 0 ∨ ∃ a n c, v = .slice (some a) n c ∧ n ≤ c ∧ c ≤ maxLen) : Rd w 1 v l.length (bvs l) := by
  refine ⟨by simp, ?_⟩
  rcases h with ⟨rfl, a, c, rfl⟩ | ⟨b, off, c, rfl, h1, h2, h3⟩
  · rcases hv with hv | ⟨a', n', c', hv, h1, h2⟩
    · exact .inl ⟨hv, rfl⟩
    · simp at hv
      obtain ⟨rfl, rfl, rfl⟩ := hv
      exact .inr ⟨a', c, rfl, h1, h2, fun j u hj => by simp [bvs] at hj⟩
  · refine .inr ⟨_, c, rfl, h1, h2, fun j u hj => ?_⟩
    simp only [bvs, List.getElem?_map, Option.map_eq_some_iff] at hj
    obtain ⟨x, hx, rfl⟩ := hj
    rw [add_at]
    have := h3 j x hx
    simpa [ByteAt] using this

/-- A slice of bytes. -/
theorem opened_bytes {t e : TypeId} {fuel : Nat} {cs : List Value} {x : DataW H × List MemPlace} (ht : P.underlying t = some (.slice e)) (he : P.underlying e = some (.int .u8)) (hC : P.cellsOf e = 1)
    (h : DataW.trod enc P w 0 (fun _ => true) true fuel t cs = some x) : ∃ (v : Value) (l : List UInt8), cs = [v] ∧ Rd w 1 v l.length (bvs l) := by
  obtain ⟨v, l, hv, hs⟩ := opened_slice (R := ByteAt) ht hC (by decide) (fun fuel cs' y hy _ => by
    obtain ⟨b, rfl⟩ := opened_u8 he hy
    exact ⟨b, fun b' o hat => hat.cell0'⟩) h
  refine ⟨v, l, hv, hs.rd ?_⟩
  rcases open_slice ht h with ⟨h0, _⟩ | ⟨a, len, cap, m, n, D, Pl, hcs, hb, hl, hm, hmm, hx, hi⟩
  · rw [hv] at h0; simp at h0; exact .inl h0
  · rw [hv] at hcs; simp at hcs; exact .inr ⟨a, len, cap, hcs, hl, hm⟩

end
end Go.Proofs.Ytbabjepblakboaa
