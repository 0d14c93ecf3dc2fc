/- Sets of outpoints, kept in maps. -/
import Derived.Test.YtkbahhnjoidhcaaXu
import Derived.MapKept
namespace Go.Proofs.Ytkbahhnjoidhcaa
set_option linter.unusedVariables false
set_option linter.unusedSimpArgs false
open Go.RowKit Go.MapKept

def samePt (x y : InD) : Bool := decide (x.id = y.id ∧ x.n = y.n)
def inSet (l : List InD) (x : InD) : Bool := l.any (samePt x)
def setV : Value := .agg #[.bool true]

/-- A map whose keys are these outpoints. -/
def MapSet (w : World) (r : Nat) (l : List InD) : Prop := (∀ y ∈ l, InOk y) ∧ ∃ (es : Array MapEntry) (clock : Nat), w.heap[r]? = some (.map es clock) ∧ es.toList.map (fun e => (e.key, e.val)) = l.map (fun y => (Value.agg (ptC y).toArray, setV))

theorem samePt_C {x y : InD} (h : samePt x y = true) : ptC x = ptC y := by
  simp only [samePt, decide_eq_true_eq] at h
  simp [ptC, h.1, h.2]

set_option maxRecDepth 100000 in
theorem checkKey_pt (w : World) (b : Bool) (x : InD) (hx : InOk x) : (Instr.checkKey b 10000 41 (.agg (ptC x).toArray)).run Try.prog w = .ok () w := by
  obtain ⟨id, n, wit⟩ := x
  obtain ⟨a0, a1, a2, a3, a4, a5, a6, a7, a8, a9, a10, a11, a12, a13, a14, a15, a16, a17, a18, a19, a20, a21, a22, a23, a24, a25, a26, a27, a28, a29, a30, a31, rfl⟩ := of32' (h := id) hx
  kernel_rfl

theorem pt_equal' (w : World) (x y : InD) (hx : InOk x) (hy : InOk y) : (Op.equal 41 (.agg (ptC x).toArray) (.agg (ptC y).toArray)).run Try.prog w = .ok (samePt x y) w := pt_equal w 9997 x y hx hy

theorem findAsking_set (w : World) (x : InD) (hx : InOk x) : ∀ (es : List MapEntry) (l : List InD) (i : Nat), (∀ y ∈ l, InOk y) → es.map (fun e => (e.key, e.val)) = l.map (fun y => (Value.agg (ptC y).toArray, setV)) →
    (inSet l x = false ∧ (Instr.findAsking 41 (.agg (ptC x).toArray) es i).run Try.prog w = .ok none w) ∨
    (inSet l x = true ∧ ∃ (j : Nat) (e : MapEntry), es[j]? = some e ∧ e.key = .agg (ptC x).toArray ∧ e.val = setV ∧ (Instr.findAsking 41 (.agg (ptC x).toArray) es i).run Try.prog w = .ok (some (i + j, setV)) w)
  | [], l, i, hl, h => by
    have : l = [] := by
      cases l with
      | nil => rfl
      | cons y l => simp at h
    subst this
    exact .inl ⟨rfl, rfl⟩
  | e :: es, l, i, hl, h => by
    cases l with
    | nil => simp at h
    | cons y l =>
      simp only [List.map_cons, List.cons.injEq, Prod.mk.injEq] at h
      obtain ⟨⟨hk, hv⟩, ht⟩ := h
      have hy := hl y (by simp)
      have hq := pt_equal' w x y hx hy
      rw [← hk] at hq
      unfold Instr.findAsking
      simp only [Sem.run_bind, hq, Result.andThen_ok]
      cases hs : samePt x y with
      | true =>
        refine .inr ⟨by simp [inSet, hs], 0, e, rfl, by rw [hk, samePt_C hs], hv, ?_⟩
        simp [hv]
      | false =>
        have hin : inSet (y :: l) x = inSet l x := by simp [inSet, hs]
        rw [hin]
        rcases findAsking_set w x hx es l (i + 1) (fun z hz => hl z (by simp [hz])) ht with ⟨h1, h2⟩ | ⟨h1, j, e', h2, h3, h4, h5⟩
        · exact .inl ⟨h1, by simpa using h2⟩
        · exact .inr ⟨h1, j + 1, e', by simpa using h2, h3, h4, by simpa [Nat.add_assoc, Nat.add_comm 1 j] using h5⟩

theorem findNow_set (k : Value) (es : List MapEntry) (fs : Array Field) : Instr.findNow (.struct fs) k es 0 = if es = [] then some none else none := by
  cases es with
  | nil => rfl
  | cons e es => simp [Instr.findNow, Instr.sameNow]

theorem findKey_set (w : World) (x : InD) (hx : InOk x) (es : List MapEntry) (l : List InD) (hl : ∀ y ∈ l, InOk y) (h : es.map (fun e => (e.key, e.val)) = l.map (fun y => (Value.agg (ptC y).toArray, setV))) :
    (inSet l x = false ∧ (Instr.findKey 41 (.agg (ptC x).toArray) es).run Try.prog w = .ok none w) ∨
    (inSet l x = true ∧ ∃ (j : Nat) (e : MapEntry), es[j]? = some e ∧ e.key = .agg (ptC x).toArray ∧ e.val = setV ∧ (Instr.findKey 41 (.agg (ptC x).toArray) es).run Try.prog w = .ok (some (j, setV)) w) := by
  unfold Instr.findKey
  simp only [Sem.run_bind, run_underlying Try.underlying41, Result.andThen_ok, findNow_set]
  cases es with
  | nil =>
    have : l = [] := by
      cases l with
      | nil => rfl
      | cons y l => simp at h
    subst this
    exact .inl ⟨rfl, rfl⟩
  | cons e es =>
    rw [if_neg (by simp)]
    have := findAsking_set w x hx (e :: es) l 0 hl h
    simpa using this

theorem zero_is (w : World) : (zeroValue 79).run Try.prog w = .ok (.agg #[.bool false]) w := by kernel_rfl

theorem run_field_set (B : Bool) (w : World) : (Instr.field 79 (.agg #[.bool B]) 0).run Try.prog w = .ok (.bool B) w := by cases B <;> kernel_rfl

/-- 'm[k]': is it there? -/
theorem run_lookup_set (w : World) (r : Nat) (l : List InD) (x : InD) (h : MapSet w r l) (hx : InOk x) :
    (Instr.lookup 78 (.map (some r)) (.agg (ptC x).toArray) false).run Try.prog w = .ok (.agg #[.bool (inSet l x)]) w := by
  obtain ⟨hl, es, clock, hb, hm⟩ := h
  unfold Instr.lookup
  simp only [Sem.run_bind, run_underlying Try.underlying78, Result.andThen_ok, Go.MapKept.run_getObj_map hb, Sem.run_pure, checkKey_pt w _ x hx]
  rcases findKey_set w x hx es.toList l hl hm with ⟨h1, h2⟩ | ⟨h1, j, e, _, _, _, h2⟩
  · simp [h1, h2, zero_is]
  · simp [h1, h2, setV]

theorem sameBits_pt (x : InD) : Instr.sameBits 10000 (.agg (ptC x).toArray) (.agg (ptC x).toArray) = true := by
  unfold Instr.sameBits
  simp only [beq_self_eq_true, Bool.true_and, List.all_eq_true]
  intro p hp
  obtain ⟨i, hi⟩ := List.getElem?_of_mem hp
  obtain ⟨p1, p2⟩ := p
  rw [List.getElem?_zip_eq_some] at hi
  obtain ⟨h1, h2⟩ := hi
  rw [h1] at h2
  cases h2
  have hm := List.mem_of_getElem? h1
  simp only [ptC, List.mem_append, List.mem_singleton] at hm
  rcases hm with hm | rfl
  · simp only [bvs, List.mem_map] at hm
    obtain ⟨b, _, rfl⟩ := hm
    simp [bv, Instr.sameBits]
  · simp [Instr.sameBits]

/-- 'm[k] = true'. -/
theorem run_update_set (w : World) (r : Nat) (l : List InD) (x : InD) (h : MapSet w r l) (hx : InOk x) :
    ∃ w', (Instr.mapUpdate 78 (.map (some r)) (.agg (ptC x).toArray) setV).run Try.prog w = .ok () w' ∧ MapSet w' r (if inSet l x then l else l ++ [x]) ∧ Only r w w' := by
  obtain ⟨hl, es, clock, hb, hm⟩ := h
  have hon : ∀ o : Obj, Only r w { w with heap := w.heap.setIfInBounds r o } := fun o => ⟨rfl, rfl, rfl, by simp, fun k hk => (heap_set hb).2 k hk⟩
  rcases findKey_set w x hx es.toList l hl hm with ⟨h1, h2⟩ | ⟨h1, j, e, h3, h4, h5, h2⟩
  · refine ⟨{ w with heap := w.heap.setIfInBounds r (.map (es.push { key := .agg (ptC x).toArray, val := setV, born := clock }) (clock + 1)) }, ?_, ?_, hon _⟩
    · unfold Instr.mapUpdate
      simp only [Sem.run_bind, run_underlying Try.underlying78, Result.andThen_ok, Go.MapKept.run_getObj_map hb, checkKey_pt w _ x hx, h2, Go.MapKept.run_setObj_map _ hb]
    · rw [h1]
      refine ⟨fun y hy => ?_, _, _, (heap_set hb).1, ?_⟩
      · simp at hy
        rcases hy with hy | rfl
        · exact hl y hy
        · exact hx
      · simp [hm]
  · refine ⟨{ w with heap := w.heap.setIfInBounds r (.map (es.modify j fun e => { e with key := .agg (ptC x).toArray, val := setV }) clock) }, ?_, ?_, hon _⟩
    · have hej : (es[j]?).map (·.key) = some (.agg (ptC x).toArray) := by
        rw [← Array.getElem?_toList, h3]
        simp [h4]
      have hsb := sameBits_pt x
      unfold Instr.mapUpdate
      simp only [Sem.run_bind, run_underlying Try.underlying78, Result.andThen_ok, Go.MapKept.run_getObj_map hb, checkKey_pt w _ x hx, h2, hej, Option.getD_some, Instr.keyThatStays, hsb, if_true, Sem.run_pure, Go.MapKept.run_setObj_map _ hb]
    · rw [if_pos h1]
      refine ⟨hl, _, _, (heap_set hb).1, ?_⟩
      rw [← hm]
      refine List.ext_getElem? fun i => ?_
      rw [Array.toList_modify, List.getElem?_map, List.getElem?_map, List.getElem?_modify]
      by_cases hij : j = i
      · subst hij
        rw [h3]
        simp [h4, h5]
      · cases hq : es.toList[i]? with
        | none => simp
        | some q => simp [hij]

theorem wpList_lookup_set {ops : Array Oper} {rest : List Oper} {o : Oper} {a : Act} {w : World} {Q : Exit → Act → World → Prop} (hgd : o.guard = none) (m k : Operand) (ho : o.op = .lookup 78 m k false)
    (r : Nat) (l : List InD) (x : InD) (hm : a.eval m = .map (some r)) (hk : a.eval k = .agg (ptC x).toArray) (hs : MapSet w r l) (hx : InOk x)
    (h : wpList Try.prog ops Q rest (a.put o.dst (.agg #[.bool (inSet l x)])) w) : wpList Try.prog ops Q (o :: rest) a w := by
  refine wpList_plain hgd fun _ hK => ?_
  unfold Oper.wp execOp
  simp only [ho, hm, hk, run_lookup_set w r l x hs hx, Sem.run_bind, Sem.run_pure, Result.andThen_ok]
  exact hK _ _ h

theorem wpList_update_set {ops : Array Oper} {rest : List Oper} {o : Oper} {a : Act} {w : World} {Q : Exit → Act → World → Prop} (hgd : o.guard = none) (m k v : Operand) (ho : o.op = .mapUpdate 78 m k v)
    (r : Nat) (l : List InD) (x : InD) (hm : a.eval m = .map (some r)) (hk : a.eval k = .agg (ptC x).toArray) (hv : a.eval v = setV) (hs : MapSet w r l) (hx : InOk x)
    (h : ∀ w', MapSet w' r (if inSet l x then l else l ++ [x]) → Only r w w' → wpList Try.prog ops Q rest (a.put o.dst undef) w') : wpList Try.prog ops Q (o :: rest) a w := by
  obtain ⟨w', hr, h1, h2⟩ := run_update_set w r l x hs hx
  refine wpList_plain hgd fun _ hK => ?_
  unfold Oper.wp execOp
  simp only [ho, hm, hk, hv, hr, Sem.run_bind, Sem.run_pure, Result.andThen_ok]
  exact hK _ _ (h w' h1 h2)

/-- Of a set that came about by putting one behind the other. -/
theorem inSet_iff (l : List InD) (x : InD) : inSet l x = true ↔ ∃ y ∈ l, x.id = y.id ∧ x.n = y.n := by
  simp [inSet, samePt]

theorem MapSet.fresh {w w' : World} {r : Nat} {l : List InD} (h : MapSet w r l) (hb : Below w.heap.size w w') : MapSet w' r l := by
  obtain ⟨hl, es, clock, h1, h2⟩ := h
  exact ⟨hl, es, clock, (hb.block r (lt_of_block h1)).trans h1, h2⟩
theorem MapSet.only {w w' : World} {r g : Nat} {l : List InD} (h : MapSet w r l) (ho : Only g w w') (hg : r ≠ g) : MapSet w' r l := by
  obtain ⟨hl, es, clock, h1, h2⟩ := h
  exact ⟨hl, es, clock, (ho.block r hg).trans h1, h2⟩
theorem MapSet.lt {w : World} {r : Nat} {l : List InD} (h : MapSet w r l) : r < w.heap.size := by
  obtain ⟨_, _, _, h1, _⟩ := h
  exact lt_of_block h1
theorem MapSet.new (w : World) : MapSet (w.alloc (.map #[] 0)) w.heap.size [] := ⟨fun y h => by simp at h, #[], 0, heap_alloc_new w _, rfl⟩

end Go.Proofs.Ytkbahhnjoidhcaa
