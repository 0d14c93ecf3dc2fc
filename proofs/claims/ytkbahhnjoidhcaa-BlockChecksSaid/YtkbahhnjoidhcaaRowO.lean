/- What the arguments of laws read as, where what is read is of little bulk: inputs, outputs, transactions, headers, blocks. -/
import Derived.Test.YtkbahhnjoidhcaaRows
import Derived.Test.YtkbahhnjoidhcaaG4
import Derived.Test.YtkbahhnjoidhcaaVw
import Derived.JoinedCond
namespace Go.Proofs.Ytkbahhnjoidhcaa
set_option linter.unusedVariables false
set_option linter.unusedSimpArgs false
open Go.ChangeShapes Go.WideShapes Go.ChangeAt Go.RowKit Go.Deep

section
variable {H : Type}

theorem bulk_one (d : DataW H) : 1 ≤ Rows.uptoBulk d := by
  cases d with
  | lit l => cases l <;> simp [Rows.uptoBulk]
  | nil => simp [Rows.uptoBulk]
  | ptr d => simp [Rows.uptoBulk]
  | slice elems spare => simp [Rows.uptoBulk]
  | agg parts => simp [Rows.uptoBulk]
  | iface t d => simp [Rows.uptoBulk]
  | map entries => simp [Rows.uptoBulk]
  | held h => simp [Rows.uptoBulk]

theorem bulk_part {d : DataW H} {l : List (DataW H)} (h : d ∈ l) : Rows.uptoBulk d ≤ Rows.uptoBulkAll l := by
  induction l with
  | nil => cases h
  | cons x r ih =>
    simp only [Rows.uptoBulkAll]
    cases List.mem_cons.1 h with
    | inl e => subst e; omega
    | inr e => have := ih e; omega

theorem bulk_length (l : List (DataW H)) : l.length ≤ Rows.uptoBulkAll l := by
  induction l with
  | nil => simp [Rows.uptoBulkAll]
  | cons x r ih => have := bulk_one x; simp only [Rows.uptoBulkAll, List.length_cons]; omega

theorem bulk_slice (elems spare : List (DataW H)) : Rows.uptoBulkAll elems + 1 ≤ Rows.uptoBulk (.slice elems spare) := by
  simp only [Rows.uptoBulk]
  omega
theorem bulk_agg (parts : List (DataW H)) : Rows.uptoBulkAll parts + 1 ≤ Rows.uptoBulk (.agg parts) := by
  simp only [Rows.uptoBulk]
  omega
theorem bulk_append (l r : List (DataW H)) : Rows.uptoBulkAll (l ++ r) = Rows.uptoBulkAll l + Rows.uptoBulkAll r := by
  induction l with
  | nil => simp [Rows.uptoBulkAll]
  | cons x l ih => simp only [List.cons_append, Rows.uptoBulkAll, ih]; omega

variable {enc : TypeId × Value → H} {P : Program} {w : World} {B : Nat}

/-- A struct of little bulk: each field by its place. -/
theorem openb_struct {t : TypeId} {fs : Array Field} {fuel : Nat} {cs : List Value} {x : DataW H × List MemPlace} (ht : P.underlying t = some (.struct fs)) (h : DataW.trod enc P w 0 (fun _ => true) true fuel t cs = some x) (hB : Rows.uptoBulk x.1 ≤ B) :
    cs.length = P.cellsOf t ∧ ∃ n, ∀ (i ty off sz : Nat), (fs[i]?).map (fun f => (f.type, f.offset)) = some (ty, off) → P.cellsOf ty = sz → ∃ y, DataW.trod enc P w 0 (fun _ => true) true n ty ((cs.drop off).take sz) = some y ∧ Rows.uptoBulk y.1 ≤ B := by
  obtain ⟨xs, n, _, rfl, hl, hxl, hf⟩ := DataW.trod_struct ht h
  refine ⟨hl, n, fun i ty off sz hi hsz => ?_⟩
  simp only [Option.map_eq_some_iff, Prod.mk.injEq] at hi
  obtain ⟨f, hf1, rfl, rfl⟩ := hi
  subst hsz
  have hlt : i < xs.length := by rw [hxl]; exact (Array.getElem?_eq_some_iff.1 hf1).1
  refine ⟨_, (hf i f hf1).trans (List.getElem?_eq_getElem hlt), ?_⟩
  have h1 : (xs[i]).1 ∈ xs.map (·.1) := List.mem_map.2 ⟨_, List.getElem_mem hlt, rfl⟩
  have h2 := bulk_part h1
  have h3 := bulk_agg (xs.map (·.1))
  have h4 : Rows.uptoBulk (DataW.agg (xs.map (·.1))) ≤ B := hB
  omega

/-- A slice of little bulk, of whatever elements: f: an element's cells; R: what is said of it. -/
theorem openb_slice {α : Type} [Inhabited α] (f : α → List Value) (R : α → Prop) {size : Nat} {t e : TypeId} {fuel : Nat} {cs : List Value} {x : DataW H × List MemPlace} (ht : P.underlying t = some (.slice e)) (hC : P.cellsOf e = size) (hpos : 0 < size)
    (hel : ∀ (fuel : Nat) (cs' : List Value) (y : DataW H × List MemPlace), DataW.trod enc P w 0 (fun _ => true) true fuel e cs' = some y → Rows.uptoBulk y.1 ≤ B → cs'.length = size → ∃ a : α, cs' = f a ∧ R a)
    (h : DataW.trod enc P w 0 (fun _ => true) true fuel t cs = some x) (hB : Rows.uptoBulk x.1 ≤ B) : ∃ (v : Value) (l : List α), cs = [v] ∧ Rd w size v l.length (l.flatMap f) ∧ l.length ≤ B ∧ (∀ a ∈ l, R a) ∧ ∀ a ∈ l, (f a).length = size := by
  rcases open_slice ht h with ⟨h0, _⟩ | ⟨a, len, cap, m, n, D, Pl, hcs, hb, hl, hm, hmm, hx, hi⟩
  · exact ⟨_, [], h0, Rd.nil w size, Nat.zero_le _, fun _ h => by simp at h, fun _ h => by simp at h⟩
  · simp only [if_true] at hmm
    subst hmm
    rw [hx] at hB
    have hs := bulk_slice ((List.range len).map D) ((List.range (m - len)).map fun j => D (len + j))
    have hln := bulk_length ((List.range len).map D)
    rw [List.length_map, List.length_range] at hln
    have hall : ∀ i, i < len → ∃ y : α, (f y).length = size ∧ (∀ j u, (f y)[j]? = some u → w.cell? ((a.add (i * size)).add j) = some u) ∧ R y := by
      intro i hil
      obtain ⟨cs', h1, h2⟩ := hi i (by omega)
      obtain ⟨_, h3, h4⟩ := World.cells?_some h1
      rw [hC] at h3 h4
      have h5 : Rows.uptoBulk (D i) ≤ B := by
        have := bulk_part (List.mem_map.2 ⟨i, List.mem_range.2 hil, rfl⟩ : D i ∈ (List.range len).map D)
        change Rows.uptoBulk (DataW.slice _ _) ≤ B at hB
        omega
      obtain ⟨y, rfl, hy⟩ := hel n cs' _ h2 h5 h3
      refine ⟨y, h3, fun j u hj => ?_, hy⟩
      rw [h4 j (by rw [← h3]; exact (List.getElem?_eq_some_iff.1 hj).1)]
      exact hj
    obtain ⟨g, hg⟩ := choose_lt hall
    have hmem : ∀ y ∈ (List.range len).map g, ∃ i, i < len ∧ g i = y := fun y hy => by
      obtain ⟨i, hi1, rfl⟩ := List.mem_map.1 hy
      exact ⟨i, List.mem_range.1 hi1, rfl⟩
    have hfl : ∀ y ∈ (List.range len).map g, (f y).length = size := fun y hy => by
      obtain ⟨i, hi1, rfl⟩ := hmem y hy
      exact (hg i hi1).1
    refine ⟨_, (List.range len).map g, hcs, ⟨by rw [flat_length f size _ hfl], .inr ⟨a, m, by simp, by simpa using hl, hm, fun j u hj => ?_⟩⟩, ?_, ?_, hfl⟩
    · obtain ⟨y, hy, hyj⟩ := flat_at f size _ hfl hpos hj
      rw [List.getElem?_map, Option.map_eq_some_iff] at hy
      obtain ⟨i, hi1, rfl⟩ := hy
      have hi2 : i = j / size ∧ i < len := by
        have h1 := (List.getElem?_eq_some_iff.1 hi1)
        obtain ⟨h2, h3⟩ := h1
        simp at h2 h3
        exact ⟨h3.symm, by omega⟩
      have h4 := (hg i hi2.2).2.1 _ _ hyj
      rw [add_add_addr, hi2.1, show j / size * size + j % size = j by rw [Nat.mul_comm]; exact Nat.div_add_mod j size] at h4
      exact h4
    · rw [List.length_map, List.length_range]
      change Rows.uptoBulk (DataW.slice _ _) ≤ B at hB
      omega
    · intro y hy
      obtain ⟨i, hi1, rfl⟩ := hmem y hy
      exact (hg i hi1).2.2

theorem two_parts {cs p q : List Value} {a b : Nat} (h : cs.length = a + b) (hp : (cs.drop 0).take a = p) (hq : (cs.drop a).take b = q) : cs = p ++ q := by
  rw [← hp, ← hq, List.drop_zero, List.take_of_length_le (l := cs.drop a) (by rw [List.length_drop]; omega), List.take_append_drop]

theorem u_bounds {k : IntKind} {n : Int} (h : (Lit.int k n).wf = true) : k.min ≤ n ∧ n ≤ k.max := by
  simpa [Lit.wf] using h

end

instance : Inhabited (InD × Value) := ⟨(⟨[], 0, []⟩, .bool false)⟩
instance : Inhabited OutD := ⟨⟨0, []⟩⟩
instance : Inhabited (TxD × Value × Value) := ⟨(⟨[], [], 0⟩, .bool false, .bool false)⟩

section
variable {H : Type} {enc : TypeId × Value → H} {w : World} {B : Nat}

theorem openb_bytes {fuel : Nat} {cs : List Value} {x : DataW H × List MemPlace} (h : DataW.trod enc Try.prog w 0 (fun _ => true) true fuel 42 cs = some x) (hB : Rows.uptoBulk x.1 ≤ B) : ∃ (v : Value) (l : Bs), cs = [v] ∧ Rd w 1 v l.length (bvs l) ∧ l.length ≤ B := by
  obtain ⟨v, l, h1, h2, h3, _, _⟩ := openb_slice (fun b : UInt8 => [bv b]) (fun _ => True) Try.underlying42 cellsU8 (by decide) (fun fuel cs' y hy _ _ => by
    obtain ⟨b, rfl⟩ := opened_u8 Try.underlying5 hy
    exact ⟨b, rfl, trivial⟩) h hB
  refine ⟨v, l, h1, ?_, h3⟩
  have he : ∀ l : Bs, l.flatMap (fun b => [bv b]) = bvs l := fun l => by
    induction l with
    | nil => rfl
    | cons b l ih => rw [List.flatMap_cons, ih]; rfl
  rwa [he] at h2

theorem openb_hashes {fuel : Nat} {cs : List Value} {x : DataW H × List MemPlace} (h : DataW.trod enc Try.prog w 0 (fun _ => true) true fuel 22 cs = some x) (hB : Rows.uptoBulk x.1 ≤ B) : ∃ (v : Value) (l : List Bs), cs = [v] ∧ Hs w v l ∧ l.length ≤ B := by
  obtain ⟨v, l, h1, h2, h3, h4, _⟩ := openb_slice (fun b : Bs => bvs b) (fun b => b.length = 32) Try.underlying22 cellsHash (by decide) (fun fuel cs' y hy _ _ => by
    obtain ⟨L, rfl, hL⟩ := opened_hash hy
    exact ⟨L, rfl, hL⟩) h hB
  refine ⟨v, l, h1, ⟨h4, ?_⟩, h3⟩
  have he : ∀ l : List Bs, l.flatMap (fun b => bvs b) = bvs l.flatten := fun l => by
    induction l with
    | nil => rfl
    | cons b l ih => rw [List.flatMap_cons, ih, List.flatten_cons, bvs_append]
  rwa [he] at h2

theorem cellsPt : Try.prog.cellsOf 41 = 33 := by kernel_rfl
theorem cellsU32 : Try.prog.cellsOf 39 = 1 := by kernel_rfl
theorem cellsIn : Try.prog.cellsOf 44 = 34 := by kernel_rfl
theorem cellsOut : Try.prog.cellsOf 46 = 33 := by kernel_rfl
theorem cellsTx : Try.prog.cellsOf 37 = 3 := by kernel_rfl
theorem cellsIns : Try.prog.cellsOf 34 = 1 := by kernel_rfl
theorem cellsOuts : Try.prog.cellsOf 35 = 1 := by kernel_rfl
theorem cellsHs : Try.prog.cellsOf 22 = 1 := by kernel_rfl
theorem cellsTxs : Try.prog.cellsOf 28 = 1 := by kernel_rfl
theorem cellsHd : Try.prog.cellsOf 27 = 130 := by kernel_rfl
theorem cellsBl : Try.prog.cellsOf 30 = 131 := by kernel_rfl

theorem openb_input {fuel : Nat} {cs : List Value} {x : DataW H × List MemPlace} (h : DataW.trod enc Try.prog w 0 (fun _ => true) true fuel 44 cs = some x) (hB : Rows.uptoBulk x.1 ≤ B) :
    ∃ z : InD × Value, cs = inC z ∧ InOk z.1 ∧ InWf z.1 ∧ z.1.wit.length ≤ B ∧ Rd w 1 z.2 z.1.wit.length (bvs z.1.wit) := by
  obtain ⟨hl, m, hf⟩ := openb_struct Try.underlying44 h hB
  rw [cellsIn] at hl
  obtain ⟨y0, h0, b0⟩ := hf 0 41 0 33 rfl cellsPt
  obtain ⟨y1, h1, b1⟩ := hf 1 42 33 1 rfl cellsBytes
  obtain ⟨hl0, m0, hf0⟩ := opened_struct Try.underlying41 h0
  obtain ⟨y2, h2⟩ := hf0 0 24 0 32 rfl cellsHash
  obtain ⟨y3, h3⟩ := hf0 1 39 32 1 rfl cellsU32
  obtain ⟨L, hL, hL32⟩ := opened_hash h2
  obtain ⟨n, hn, _, hw⟩ := DataW.trod_int Try.underlying39 h3
  obtain ⟨v, l, hv, hrd, hlB⟩ := openb_bytes h1 b1
  rw [cellsPt] at hl0
  have e1 := two_parts (a := 32) (b := 1) hl0 hL hn
  have e2 := two_parts (a := 33) (b := 1) hl e1 hv
  have hw' := u_bounds hw
  refine ⟨(⟨L, n, l⟩, v), ?_, hL32, ⟨hw'.1, Int.lt_of_le_of_lt hw'.2 (by decide)⟩, hlB, hrd⟩
  rw [e2]
  simp [inC]

theorem openb_output {fuel : Nat} {cs : List Value} {x : DataW H × List MemPlace} (h : DataW.trod enc Try.prog w 0 (fun _ => true) true fuel 46 cs = some x) :
    ∃ z : OutD, cs = outC z ∧ OutOk z ∧ OutWf z := by
  obtain ⟨hl, m, hf⟩ := opened_struct Try.underlying46 h
  rw [cellsOut] at hl
  obtain ⟨y0, h0⟩ := hf 0 25 0 1 rfl cellsU64
  obtain ⟨y1, h1⟩ := hf 1 24 1 32 rfl cellsHash
  obtain ⟨L, hL, hL32⟩ := opened_hash h1
  obtain ⟨n, hn, _, hw⟩ := DataW.trod_int Try.underlying25 h0
  have e1 := two_parts (a := 1) (b := 32) hl hn hL
  have hw' := u_bounds hw
  refine ⟨⟨n, L⟩, ?_, hL32, hw'.1, Int.lt_of_le_of_lt hw'.2 (by decide)⟩
  rw [e1]
  rfl

theorem openb_tx {fuel : Nat} {cs : List Value} {x : DataW H × List MemPlace} (h : DataW.trod enc Try.prog w 0 (fun _ => true) true fuel 37 cs = some x) (hB : Rows.uptoBulk x.1 ≤ B) :
    ∃ z : TxD × Value × Value, cs = txC z ∧ Ins (fun _ => True) w z.2.1 z.1.ins ∧ Outs (fun _ => True) w z.2.2 z.1.outs ∧ TxWf z.1 ∧ TxSmall B z.1 := by
  obtain ⟨hl, m, hf⟩ := openb_struct Try.underlying37 h hB
  rw [cellsTx] at hl
  obtain ⟨y0, h0, b0⟩ := hf 0 34 0 1 rfl cellsIns
  obtain ⟨y1, h1, b1⟩ := hf 1 35 1 1 rfl cellsOuts
  obtain ⟨y2, h2, _⟩ := hf 2 25 2 1 rfl cellsU64
  obtain ⟨n, hn, _, hw⟩ := DataW.trod_int Try.underlying25 h2
  obtain ⟨v0, l0, hv0, hr0, hb0, hq0, hz0⟩ := openb_slice inC (fun z => InOk z.1 ∧ InWf z.1 ∧ z.1.wit.length ≤ B ∧ Rd w 1 z.2 z.1.wit.length (bvs z.1.wit)) Try.underlying34 cellsIn (by decide) (fun fuel cs' y hy hb _ => by
    obtain ⟨z, rfl, q⟩ := openb_input hy hb
    exact ⟨z, rfl, q⟩) h0 b0
  obtain ⟨v1, l1, hv1, hr1, hb1, hq1, hz1⟩ := openb_slice outC (fun z => OutOk z ∧ OutWf z) Try.underlying35 cellsOut (by decide) (fun fuel cs' y hy hb _ => by
    obtain ⟨z, rfl, q⟩ := openb_output hy
    exact ⟨z, rfl, q⟩) h1 b1
  have hzip : (l0.map (·.1)).zip (l0.map (·.2)) = l0 := by
    clear hr0 hb0 hq0 hz0
    induction l0 with
    | nil => rfl
    | cons a l ih => simp [ih]
  have hin : ∀ i ∈ l0.map (·.1), InOk i ∧ InWf i ∧ i.wit.length ≤ B := fun i hi => by
    obtain ⟨z, hz, rfl⟩ := List.mem_map.1 hi
    exact ⟨(hq0 z hz).1, (hq0 z hz).2.1, (hq0 z hz).2.2.1⟩
  have hw' := u_bounds hw
  rcases cs with _ | ⟨c0, _ | ⟨c1, _ | ⟨c2, _ | ⟨c3, r⟩⟩⟩⟩ <;> simp at hl
  simp at hn hv0 hv1
  subst hn hv0 hv1
  refine ⟨(⟨l0.map (·.1), l1, n⟩, c0, c1), rfl, ⟨l0.map (·.2), by simp, fun i hi => (hin i hi).1, ⟨?_, fun _ _ => trivial⟩, fun i y t hy ht => ?_⟩, ⟨fun o ho => (hq1 o ho).1, hr1, fun _ _ => trivial⟩, ⟨fun i hi => (hin i hi).2.1, fun o ho => (hq1 o ho).2, hw'.1, Int.lt_of_le_of_lt hw'.2 (by decide)⟩, by simpa using hb0, hb1, fun i hi => (hin i hi).2.2⟩
  · simp only [hzip]
    simpa using hr0
  · rw [List.getElem?_map] at hy ht
    cases hl0 : l0[i]? with
    | none => rw [hl0] at hy; cases hy
    | some z =>
      rw [hl0] at hy ht
      cases hy
      cases ht
      exact ⟨(hq0 z (List.mem_of_getElem? hl0)).2.2.2, fun _ _ => trivial⟩

theorem openb_header {fuel : Nat} {cs : List Value} {x : DataW H × List MemPlace} (h : DataW.trod enc Try.prog w 0 (fun _ => true) true fuel 27 cs = some x) (hB : Rows.uptoBulk x.1 ≤ B) :
    ∃ (z : HdD) (v : Value), cs = hdC z v ∧ HdOk z ∧ Hs w v z.par ∧ z.par.length ≤ B ∧ 0 ≤ z.nonce ∧ z.nonce < 18446744073709551616 := by
  obtain ⟨hl, m, hf⟩ := openb_struct Try.underlying27 h hB
  rw [cellsHd] at hl
  obtain ⟨y0, h0, b0⟩ := hf 0 22 0 1 rfl cellsHs
  obtain ⟨y1, h1, _⟩ := hf 1 24 1 32 rfl cellsHash
  obtain ⟨y2, h2, _⟩ := hf 2 24 33 32 rfl cellsHash
  obtain ⟨y3, h3, _⟩ := hf 3 24 65 32 rfl cellsHash
  obtain ⟨y4, h4, _⟩ := hf 4 24 97 32 rfl cellsHash
  obtain ⟨y5, h5, _⟩ := hf 5 25 129 1 rfl cellsU64
  obtain ⟨v, l, hv, hs, hb⟩ := openb_hashes h0 b0
  obtain ⟨L1, e1, q1⟩ := opened_hash h1
  obtain ⟨L2, e2, q2⟩ := opened_hash h2
  obtain ⟨L3, e3, q3⟩ := opened_hash h3
  obtain ⟨L4, e4, q4⟩ := opened_hash h4
  obtain ⟨n, hn, _, hw⟩ := DataW.trod_int Try.underlying25 h5
  have hw' := u_bounds hw
  have tk : ∀ k, k ≤ 130 → (cs.take k).length = k := fun k hk => by rw [List.length_take]; omega
  have tt : ∀ a b, a ≤ b → ((cs.take b).drop 0).take a = cs.take a := fun a b h => by rw [List.drop_zero, List.take_take, Nat.min_eq_left h]
  have dt : ∀ a b, ((cs.take (a + b)).drop a).take b = (cs.drop a).take b := fun a b => by rw [List.drop_take, List.take_take]; congr 1; omega
  have g1 : cs.take 33 = [v] ++ bvs L1 := two_parts (a := 1) (b := 32) (tk 33 (by omega)) ((tt 1 33 (by omega)).trans hv) ((dt 1 32).trans e1)
  have g2 : cs.take 65 = ([v] ++ bvs L1) ++ bvs L2 := two_parts (a := 33) (b := 32) (tk 65 (by omega)) ((tt 33 65 (by omega)).trans g1) ((dt 33 32).trans e2)
  have g3 : cs.take 97 = (([v] ++ bvs L1) ++ bvs L2) ++ bvs L3 := two_parts (a := 65) (b := 32) (tk 97 (by omega)) ((tt 65 97 (by omega)).trans g2) ((dt 65 32).trans e3)
  have g4 : cs.take 129 = ((([v] ++ bvs L1) ++ bvs L2) ++ bvs L3) ++ bvs L4 := two_parts (a := 97) (b := 32) (tk 129 (by omega)) ((tt 97 129 (by omega)).trans g3) ((dt 97 32).trans e4)
  have g5 : cs = (((([v] ++ bvs L1) ++ bvs L2) ++ bvs L3) ++ bvs L4) ++ [Value.int .u64 n] := two_parts (a := 129) (b := 1) hl g4 hn
  refine ⟨⟨l, L1, L2, L3, L4, n⟩, v, ?_, ⟨q1, q2, q3, q4⟩, hs, hb, hw'.1, Int.lt_of_le_of_lt hw'.2 (by decide)⟩
  rw [g5]
  simp [hdC]

theorem openb_txs {fuel : Nat} {cs : List Value} {x : DataW H × List MemPlace} (h : DataW.trod enc Try.prog w 0 (fun _ => true) true fuel 28 cs = some x) (hB : Rows.uptoBulk x.1 ≤ B) :
    ∃ (v : Value) (l : List TxD), cs = [v] ∧ Txs (fun _ => True) w v l ∧ l.length ≤ B ∧ ∀ z ∈ l, TxWf z ∧ TxSmall B z := by
  obtain ⟨v0, l0, hv0, hr0, hb0, hq0, hz0⟩ := openb_slice txC (fun z => Ins (fun _ => True) w z.2.1 z.1.ins ∧ Outs (fun _ => True) w z.2.2 z.1.outs ∧ TxWf z.1 ∧ TxSmall B z.1) Try.underlying28 cellsTx (by decide) (fun fuel cs' y hy hb _ => by
    obtain ⟨z, rfl, q⟩ := openb_tx hy hb
    exact ⟨z, rfl, q⟩) h hB
  have hzip : (l0.map (·.1)).zip (l0.map (·.2)) = l0 := by
    clear hr0 hb0 hq0 hz0
    induction l0 with
    | nil => rfl
    | cons a l ih => simp [ih]
  refine ⟨v0, l0.map (·.1), hv0, ⟨l0.map (·.2), by simp, ⟨?_, fun _ _ => trivial⟩, fun i y t hy ht => ?_⟩, by simpa using hb0, fun z hz => ?_⟩
  · simp only [hzip]
    simpa using hr0
  · rw [List.getElem?_map] at hy ht
    cases hl0 : l0[i]? with
    | none => rw [hl0] at hy; cases hy
    | some z =>
      rw [hl0] at hy ht
      cases hy
      cases ht
      have := hq0 z (List.mem_of_getElem? hl0)
      exact ⟨this.1, this.2.1⟩
  · obtain ⟨y, hy, rfl⟩ := List.mem_map.1 hz
    exact (hq0 y hy).2.2

theorem openb_block {fuel : Nat} {cs : List Value} {x : DataW H × List MemPlace} (h : DataW.trod enc Try.prog w 0 (fun _ => true) true fuel 30 cs = some x) (hB : Rows.uptoBulk x.1 ≤ B) :
    ∃ (z : BlD) (v t : Value), cs = blC z v t ∧ HdOk z.hd ∧ Hs w v z.hd.par ∧ Txs (fun _ => True) w t z.txs ∧ z.hd.par.length ≤ B ∧ (0 ≤ z.hd.nonce ∧ z.hd.nonce < 18446744073709551616) ∧ z.txs.length ≤ B ∧ ∀ y ∈ z.txs, TxWf y ∧ TxSmall B y := by
  obtain ⟨hl, m, hf⟩ := openb_struct Try.underlying30 h hB
  rw [cellsBl] at hl
  obtain ⟨y0, h0, b0⟩ := hf 0 27 0 130 rfl cellsHd
  obtain ⟨y1, h1, b1⟩ := hf 1 28 130 1 rfl cellsTxs
  obtain ⟨z, v, hz, hok, hs, hb, hn⟩ := openb_header h0 b0
  obtain ⟨t, l, ht, htx, hlb, hall⟩ := openb_txs h1 b1
  have e := two_parts (cs := cs) (a := 130) (b := 1) hl hz ht
  exact ⟨⟨z, l⟩, v, t, e, hok, hs, htx, hb, hn, hlb, hall⟩

end
end Go.Proofs.Ytkbahhnjoidhcaa
