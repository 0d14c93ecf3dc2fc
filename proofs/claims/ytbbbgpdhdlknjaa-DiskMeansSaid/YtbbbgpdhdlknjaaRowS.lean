/- What the arguments of the disks' laws read as: steps, lists of steps. -/
import Derived.Test.YtbbbgpdhdlknjaaRowE
import Derived.Test.YtbbbgpdhdlknjaaDv
namespace Go.Proofs.Ytbbbgpdhdlknjaa
set_option linter.unusedVariables false
set_option linter.unusedSimpArgs false
open Go.ChangeShapes Go.WideShapes Go.ChangeAt Go.RowKit Go.Deep

theorem flat_length {α : Type} (f : α → List Value) (s : Nat) (l : List α) (hf : ∀ x ∈ l, (f x).length = s) : (l.flatMap f).length = l.length * s := by
  induction l with
  | nil => simp
  | cons x l ih =>
    rw [List.flatMap_cons, List.length_append, hf x (by simp), ih (fun y hy => hf y (by simp [hy])), List.length_cons, Nat.add_mul, Nat.one_mul, Nat.add_comm]

theorem flat_at {α : Type} (f : α → List Value) (s : Nat) (l : List α) (hf : ∀ x ∈ l, (f x).length = s) (h0 : 0 < s) {j : Nat} {u : Value} (hj : (l.flatMap f)[j]? = some u) : ∃ x, l[j / s]? = some x ∧ (f x)[j % s]? = some u := by
  have hl := (List.getElem?_eq_some_iff.1 hj).1
  rw [flat_length f s l hf] at hl
  have hd : j / s < l.length := Nat.div_lt_of_lt_mul (by rw [Nat.mul_comm]; exact hl)
  obtain ⟨x, hx⟩ : ∃ x, l[j / s]? = some x := ⟨_, List.getElem?_eq_getElem hd⟩
  refine ⟨x, hx, ?_⟩
  have hlen := hf x (List.mem_of_getElem? hx)
  obtain ⟨v, hv⟩ : ∃ v, (f x)[j % s]? = some v := ⟨_, List.getElem?_eq_getElem (by rw [hlen]; exact Nat.mod_lt _ h0)⟩
  have := flat_get f s l hf hx _ v hv
  rw [show j / s * s + j % s = j by rw [Nat.mul_comm]; exact Nat.div_add_mod j s, hj] at this
  cases this
  exact hv

section
variable {H : Type} {enc : TypeId × Value → H} {P : Program} {w : World} {base : Nat} {spare : Nat → Bool} {held : Bool}

theorem tA1 {t0 : TypeId} {args : Array Value} {ds : List (DataW H)} {ps : List MemPlace} (h : DataW.TrodAll enc P w base spare held [t0] args.toList ds ps) :
    ∃ v0 d0 p0, args = #[v0] ∧ ds = [d0] ∧ ps = p0 ∧ DataW.Trod enc P w base spare held t0 v0 d0 p0 := by
  obtain ⟨v0, vs0, d0, ds0, p0, q0, hargs, rfl, rfl, h0, r0⟩ := trodAll_cons h
  obtain ⟨rfl, rfl, rfl⟩ := trodAll_nil r0
  exact ⟨v0, d0, p0, by cases args; simp_all, rfl, by simp, h0⟩

theorem tA2 {t0 t1 : TypeId} {args : Array Value} {ds : List (DataW H)} {ps : List MemPlace} (h : DataW.TrodAll enc P w base spare held [t0, t1] args.toList ds ps) :
    ∃ v0 v1 d0 d1 p0 p1, args = #[v0, v1] ∧ ds = [d0, d1] ∧ ps = p0 ++ p1 ∧ DataW.Trod enc P w base spare held t0 v0 d0 p0 ∧ DataW.Trod enc P w base spare held t1 v1 d1 p1 := by
  obtain ⟨v0, vs0, d0, ds0, p0, q0, hargs, rfl, rfl, h0, r0⟩ := trodAll_cons h
  obtain ⟨v1, vs1, d1, ds1, p1, q1, rfl, rfl, rfl, h1, r1⟩ := trodAll_cons r0
  obtain ⟨rfl, rfl, rfl⟩ := trodAll_nil r1
  exact ⟨v0, v1, d0, d1, p0, p1, by cases args; simp_all, rfl, by simp, h0, h1⟩

theorem tA3 {t0 t1 t2 : TypeId} {args : Array Value} {ds : List (DataW H)} {ps : List MemPlace} (h : DataW.TrodAll enc P w base spare held [t0, t1, t2] args.toList ds ps) :
    ∃ v0 v1 v2 d0 d1 d2 p0 p1 p2, args = #[v0, v1, v2] ∧ ds = [d0, d1, d2] ∧ ps = p0 ++ (p1 ++ p2) ∧ DataW.Trod enc P w base spare held t0 v0 d0 p0 ∧ DataW.Trod enc P w base spare held t1 v1 d1 p1 ∧ DataW.Trod enc P w base spare held t2 v2 d2 p2 := by
  obtain ⟨v0, vs0, d0, ds0, p0, q0, hargs, rfl, rfl, h0, r0⟩ := trodAll_cons h
  obtain ⟨v1, vs1, d1, ds1, p1, q1, rfl, rfl, rfl, h1, r1⟩ := trodAll_cons r0
  obtain ⟨v2, vs2, d2, ds2, p2, q2, rfl, rfl, rfl, h2, r2⟩ := trodAll_cons r1
  obtain ⟨rfl, rfl, rfl⟩ := trodAll_nil r2
  exact ⟨v0, v1, v2, d0, d1, d2, p0, p1, p2, by cases args; simp_all, rfl, by simp, h0, h1, h2⟩

theorem tA4 {t0 t1 t2 t3 : TypeId} {args : Array Value} {ds : List (DataW H)} {ps : List MemPlace} (h : DataW.TrodAll enc P w base spare held [t0, t1, t2, t3] args.toList ds ps) :
    ∃ v0 v1 v2 v3 d0 d1 d2 d3 p0 p1 p2 p3, args = #[v0, v1, v2, v3] ∧ ds = [d0, d1, d2, d3] ∧ ps = p0 ++ (p1 ++ (p2 ++ p3)) ∧ DataW.Trod enc P w base spare held t0 v0 d0 p0 ∧ DataW.Trod enc P w base spare held t1 v1 d1 p1 ∧ DataW.Trod enc P w base spare held t2 v2 d2 p2 ∧ DataW.Trod enc P w base spare held t3 v3 d3 p3 := by
  obtain ⟨v0, vs0, d0, ds0, p0, q0, hargs, rfl, rfl, h0, r0⟩ := trodAll_cons h
  obtain ⟨v1, vs1, d1, ds1, p1, q1, rfl, rfl, rfl, h1, r1⟩ := trodAll_cons r0
  obtain ⟨v2, vs2, d2, ds2, p2, q2, rfl, rfl, rfl, h2, r2⟩ := trodAll_cons r1
  obtain ⟨v3, vs3, d3, ds3, p3, q3, rfl, rfl, rfl, h3, r3⟩ := trodAll_cons r2
  obtain ⟨rfl, rfl, rfl⟩ := trodAll_nil r3
  exact ⟨v0, v1, v2, v3, d0, d1, d2, d3, p0, p1, p2, p3, by cases args; simp_all, rfl, by simp, h0, h1, h2, h3⟩

theorem okW_arr {r : Reach} {b0 : Nat} {t e : TypeId} {n : Nat} {v : Value} (ht : P.underlying t = some (.array n e)) (h : Value.okWide P w r b0 t v) : ∃ cs, v = .agg cs := by
  unfold Value.okWide at h
  rw [ht] at h
  obtain ⟨cs, h1, _⟩ := h
  exact ⟨cs, h1⟩

theorem okW_struct {r : Reach} {b0 : Nat} {t : TypeId} {fs : Array Field} {v : Value} (ht : P.underlying t = some (.struct fs)) (h : Value.okWide P w r b0 t v) : ∃ cs, v = .agg cs := by
  unfold Value.okWide at h
  rw [ht] at h
  obtain ⟨cs, h1, _⟩ := h
  exact ⟨cs, h1⟩

/-- A slice of whatever elements: f: an element's cells; R: what is said of it. -/
theorem openr_slice {α : Type} [Inhabited α] (f : α → List Value) (R : α → Prop) {size : Nat} {t e : TypeId} {fuel : Nat} {cs : List Value} {x : DataW H × List MemPlace} (ht : P.underlying t = some (.slice e)) (hC : P.cellsOf e = size) (hpos : 0 < size)
    (hel : ∀ (fuel : Nat) (cs' : List Value) (y : DataW H × List MemPlace), DataW.trod enc P w 0 (fun _ => true) true fuel e cs' = some y → cs'.length = size → ∃ a : α, cs' = f a ∧ R a)
    (h : DataW.trod enc P w 0 (fun _ => true) true fuel t cs = some x) : ∃ (v : Value) (l : List α), cs = [v] ∧ Rd w size v l.length (l.flatMap f) ∧ (∀ a ∈ l, R a) ∧ ∀ a ∈ l, (f a).length = size := by
  rcases open_slice ht h with ⟨h0, _⟩ | ⟨a, len, cap, m, n, D, Pl, hcs, hb, hl, hm, hmm, hx, hi⟩
  · exact ⟨_, [], h0, Rd.nil w size, fun _ h => by simp at h, fun _ h => by simp at h⟩
  · simp only [if_true] at hmm
    subst hmm
    have hall : ∀ i, i < len → ∃ y : α, (f y).length = size ∧ (∀ j u, (f y)[j]? = some u → w.cell? ((a.add (i * size)).add j) = some u) ∧ R y := by
      intro i hil
      obtain ⟨cs', h1, h2⟩ := hi i (by omega)
      obtain ⟨_, h3, h4⟩ := World.cells?_some h1
      rw [hC] at h3 h4
      obtain ⟨y, rfl, hy⟩ := hel n cs' _ h2 h3
      refine ⟨y, h3, fun j u hj => ?_, hy⟩
      rw [h4 j (by rw [← h3]; exact (List.getElem?_eq_some_iff.1 hj).1)]
      exact hj
    obtain ⟨g, hg⟩ := choose_lt hall
    have hmem : ∀ y ∈ (List.range len).map g, ∃ i, i < len ∧ g i = y := fun y hy => by
      obtain ⟨i, hi1, rfl⟩ := List.mem_map.1 hy
      exact ⟨i, List.mem_range.1 hi1, rfl⟩
    have hfl : ∀ y ∈ (List.range len).map g, (f y).length = size := fun y hy => by
      obtain ⟨i, hi1, rfl⟩ := hmem y hy
      exact (hg i hi1).1
    refine ⟨_, (List.range len).map g, hcs, ⟨by rw [flat_length f size _ hfl], .inr ⟨a, m, by simp, by simpa using hl, hm, fun j u hj => ?_⟩⟩, ?_, hfl⟩
    · obtain ⟨y, hy, hyj⟩ := flat_at f size _ hfl hpos hj
      rw [List.getElem?_map, Option.map_eq_some_iff] at hy
      obtain ⟨i, hi1, rfl⟩ := hy
      have hi2 : i = j / size ∧ i < len := by
        have h1 := (List.getElem?_eq_some_iff.1 hi1)
        obtain ⟨h2, h3⟩ := h1
        simp at h2 h3
        exact ⟨h3.symm, by omega⟩
      have h4 := (hg i hi2.2).2.1 _ _ hyj
      rw [add_add_addr, hi2.1, show j / size * size + j % size = j by rw [Nat.mul_comm]; exact Nat.div_add_mod j size] at h4
      exact h4
    · intro y hy
      obtain ⟨i, hi1, rfl⟩ := hmem y hy
      exact (hg i hi1).2.2

theorem u_bounds {k : IntKind} {n : Int} (h : (Lit.int k n).wf = true) : k.min ≤ n ∧ n ≤ k.max := by
  simpa [Lit.wf] using h

end

instance : Inhabited (Sp × Value) := ⟨(⟨0, 0, 0, 0, 0, []⟩, .bool false)⟩

section
variable {H : Type} {enc : TypeId × Value → H} {w : World}

theorem cellsSp : Try.prog.cellsOf 31 = 6 := by kernel_rfl

/-- Numbers such as an int has. -/
def InB (s : Sp) : Prop := (-9223372036854775808 ≤ s.n ∧ s.n ≤ 9223372036854775807) ∧ (-9223372036854775808 ≤ s.m ∧ s.m ≤ 9223372036854775807)

theorem opened_step {fuel : Nat} {cs : List Value} {x : DataW H × List MemPlace} (h : DataW.trod enc Try.prog w 0 (fun _ => true) true fuel 31 cs = some x) :
    ∃ z : Sp × Value, cs = spC z ∧ InB z.1 ∧ Rd w 1 z.2 z.1.b.length (bvs z.1.b) := by
  obtain ⟨hl, m, hf⟩ := opened_struct Try.underlying31 h
  rw [cellsSp] at hl
  obtain ⟨y0, h0⟩ := hf 0 3 0 1 rfl cellsI64
  obtain ⟨y1, h1⟩ := hf 1 3 1 1 rfl cellsI64
  obtain ⟨y2, h2⟩ := hf 2 3 2 1 rfl cellsI64
  obtain ⟨y3, h3⟩ := hf 3 3 3 1 rfl cellsI64
  obtain ⟨y4, h4⟩ := hf 4 5 4 1 rfl cellsU8
  obtain ⟨y5, h5⟩ := hf 5 29 5 1 rfl cellsBytes
  obtain ⟨n0, e0, _, _⟩ := DataW.trod_int Try.underlying3 h0
  obtain ⟨n1, e1, _, _⟩ := DataW.trod_int Try.underlying3 h1
  obtain ⟨n2, e2, _, w2⟩ := DataW.trod_int Try.underlying3 h2
  obtain ⟨n3, e3, _, w3⟩ := DataW.trod_int Try.underlying3 h3
  obtain ⟨b, e4⟩ := opened_u8 Try.underlying5 h4
  obtain ⟨v, l, e5, hr⟩ := opened_bytes Try.underlying29 Try.underlying5 cellsU8 h5
  rcases cs with _ | ⟨c0, _ | ⟨c1, _ | ⟨c2, _ | ⟨c3, _ | ⟨c4, _ | ⟨c5, _ | ⟨c6, r⟩⟩⟩⟩⟩⟩⟩ <;> simp at hl
  simp at e0 e1 e2 e3 e4 e5
  subst e0 e1 e2 e3 e4 e5
  have q2 := u_bounds w2
  have q3 := u_bounds w3
  exact ⟨(⟨n0, n1, n2, n3, b, l⟩, _), rfl, ⟨⟨q2.1, q2.2⟩, ⟨q3.1, q3.2⟩⟩, hr⟩

theorem opened_steps {fuel : Nat} {cs : List Value} {x : DataW H × List MemPlace} (h : DataW.trod enc Try.prog w 0 (fun _ => true) true fuel 22 cs = some x) :
    ∃ (v : Value) (l : List Sp), cs = [v] ∧ Sps w v l ∧ ∀ z ∈ l, InB z := by
  obtain ⟨v0, l0, hv0, hr0, hq0, hz0⟩ := openr_slice spC (fun z => InB z.1 ∧ Rd w 1 z.2 z.1.b.length (bvs z.1.b)) Try.underlying22 cellsSp (by decide) (fun fuel cs' y hy _ => by
    obtain ⟨z, rfl, q⟩ := opened_step hy
    exact ⟨z, rfl, q⟩) h
  have hzip : (l0.map (·.1)).zip (l0.map (·.2)) = l0 := by
    clear hr0 hq0 hz0
    induction l0 with
    | nil => rfl
    | cons a l ih => simp [ih]
  refine ⟨v0, l0.map (·.1), hv0, ⟨l0.map (·.2), by simp, ?_, fun i y t hy ht => ?_⟩, fun z hz => ?_⟩
  · simp only [hzip]
    simpa using hr0
  · rw [List.getElem?_map] at hy ht
    cases hl0 : l0[i]? with
    | none => rw [hl0] at hy; cases hy
    | some z =>
      rw [hl0] at hy ht
      cases hy
      cases ht
      exact (hq0 z (List.mem_of_getElem? hl0)).2
  · obtain ⟨y, hy, rfl⟩ := List.mem_map.1 hz
    exact (hq0 y hy).1

end
end Go.Proofs.Ytbbbgpdhdlknjaa
