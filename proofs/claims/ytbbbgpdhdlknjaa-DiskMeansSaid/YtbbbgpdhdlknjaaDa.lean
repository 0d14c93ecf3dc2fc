/- Disks: blocks of any values, bytes whose block has its type, views of rows, stores into one cell. -/
import Derived.Test.YtbbbgpdhdlknjaaG1
import Derived.Test.YtbbbgpdhdlknjaaPlb
import Derived.ArgAppend
import Derived.Great.BuildSlice
namespace Go.Proofs.Ytbbbgpdhdlknjaa
set_option linter.unusedVariables false
set_option linter.unusedSimpArgs false
open Go.RowKit

abbrev Bs := List UInt8

/-- Values in a block. -/
def CB (w : World) (e : TypeId) (g : Nat) (L : List Value) : Prop := w.heap[g]? = some (.cells L.toArray e (0, 0))

theorem CB.lt {w : World} {e : TypeId} {g : Nat} {L : List Value} (h : CB w e g L) : g < w.heap.size := lt_of_block h

theorem CB.cell {w : World} {e : TypeId} {g : Nat} {L : List Value} (h : CB w e g L) (k : Nat) (x : Value) (hx : L[k]? = some x) : w.cell? ⟨g, k, none⟩ = some x := by
  unfold CB at h
  simp [World.cell?, h, hx]

theorem CB.fresh {w w' : World} {e : TypeId} {g : Nat} {L : List Value} (h : CB w e g L) (hb : Below w.heap.size w w') : CB w' e g L := by
  unfold CB
  rw [hb.block g h.lt]
  exact h

theorem CB.below {w w' : World} {e : TypeId} {g B : Nat} {L : List Value} (h : CB w e g L) (hb : Below B w w') (hg : g < B) : CB w' e g L := by
  unfold CB
  rw [hb.block g hg]
  exact h

theorem CB.drew {w : World} {e : TypeId} {g : Nat} {L : List Value} (h : CB w e g L) : CB w.drew e g L := h

theorem CB.new (w : World) (e : TypeId) (L : List Value) : CB (w.alloc (.cells L.toArray e)) e w.heap.size L := heap_alloc_new w _

theorem alloc_cb (w : World) (e : TypeId) (L : List Value) : ∃ w', w' = w.alloc (.cells L.toArray e) ∧ CB w' e w.heap.size L ∧ Below w.heap.size w w' ∧ w'.heap.size = w.heap.size + 1 :=
  ⟨_, rfl, CB.new w e L, (Below.refl _ w).alloc (Nat.le_refl _) _, Array.size_push _⟩

theorem CB.kept {w w' : World} {e : TypeId} {g : Nat} {L : List Value} (h : CB w e g L) (hk : w'.heap[g]? = w.heap[g]?) : CB w' e g L := by
  unfold CB
  rw [hk]
  exact h

theorem CB.only {w w' : World} {e : TypeId} {g r : Nat} {L : List Value} (h : CB w e g L) (ho : Only r w w') (hne : g ≠ r) : CB w' e g L := h.kept (ho.block g hne)

theorem CB.ne {w : World} {e e' : TypeId} {g g' : Nat} {L L' : List Value} (h : CB w e g L) (h' : CB w e' g' L') (he : e ≠ e') : g ≠ g' := by
  intro hg
  subst hg
  unfold CB at h h'
  rw [h] at h'
  simp only [Option.some.injEq, Obj.cells.injEq] at h'
  exact he h'.2.1

/-- A block has a type. -/
def Tag (w : World) (g : Nat) (e : TypeId) : Prop := ∃ cur fz, w.heap[g]? = some (.cells cur e fz)

theorem Tag.lt {w : World} {g : Nat} {e : TypeId} (h : Tag w g e) : g < w.heap.size := by
  obtain ⟨cur, fz, h⟩ := h
  exact lt_of_block h
theorem CB.tag {w : World} {e : TypeId} {g : Nat} {L : List Value} (h : CB w e g L) : Tag w g e := ⟨_, _, h⟩
theorem Tag.kept {w w' : World} {g : Nat} {e : TypeId} (h : Tag w g e) (hk : w'.heap[g]? = w.heap[g]?) : Tag w' g e := by
  obtain ⟨cur, fz, h⟩ := h
  exact ⟨cur, fz, by rw [hk, h]⟩
theorem Tag.ne {w : World} {g g' : Nat} {e e' : TypeId} (h : Tag w g e) (h' : Tag w g' e') (he : e ≠ e') : g ≠ g' := by
  intro hg
  subst hg
  obtain ⟨c, f, h⟩ := h
  obtain ⟨c', f', h'⟩ := h'
  rw [h] at h'
  simp only [Option.some.injEq, Obj.cells.injEq] at h'
  exact he h'.2.1

/-- One block may be named that no disk reads (the caller's own bytes). -/
def outB [Inhabited (Option Nat)] : Option Nat := default
/-- It lies below a place. -/
def Av [Inhabited (Option Nat)] (B : Nat) : Prop := ∀ x, outB = some x → x < B
theorem Av.mono [Inhabited (Option Nat)] {B B' : Nat} (h : Av B) (hb : B ≤ B') : Av B' := fun x hx => Nat.lt_of_lt_of_le (h x hx) hb

/-- Bytes that are read, in a block of bytes. -/
def RdU [Inhabited (Option Nat)] (w : World) (v : Value) (b : Bs) : Prop := Rd w 1 v b.length (bvs b) ∧ ∀ g, v.ownBlock = some g → Tag w g 5 ∧ outB ≠ some g

theorem RdU.kept [Inhabited (Option Nat)] {w w' : World} {v : Value} {b : Bs} (h : RdU w v b) (hk : ∀ g, v.ownBlock = some g → Tag w g 5 → w'.heap[g]? = w.heap[g]?) : RdU w' v b :=
  ⟨h.1.kept fun k _ hv => hk k hv (h.2 k hv).1, fun g hg => ⟨(h.2 g hg).1.kept (hk g hg (h.2 g hg).1), (h.2 g hg).2⟩⟩
theorem RdU.fresh [Inhabited (Option Nat)] {w w' : World} {v : Value} {b : Bs} (h : RdU w v b) (hb : Below w.heap.size w w') : RdU w' v b := h.kept fun g _ ht => hb.block g ht.lt
theorem RdU.only [Inhabited (Option Nat)] {w w' : World} {v : Value} {b : Bs} {r : Nat} {e : TypeId} (h : RdU w v b) (ho : Only r w w') (hr : Tag w r e) (he : 5 ≠ e) : RdU w' v b := h.kept fun g _ ht => ho.block g (ht.ne hr he)
theorem RdU.grown [Inhabited (Option Nat)] {w w' : World} {v : Value} {b : Bs} {r : Option Nat} {e : TypeId} (h : RdU w v b) (ho : w.grownBy w' r) (hr : ∀ g, r = some g → Tag w g e) (he : 5 ≠ e) : RdU w' v b := h.kept fun g _ ht => ho.block g ht.lt (fun hc => by
  have := ht.ne (hr g hc.symm) he
  exact this rfl)
theorem RdU.of_own [Inhabited (Option Nat)] {w : World} {base : Nat} {v : Value} {b : Bs} (h : w.ownsRow base 5 1 v b.length (bvs b)) (ha : Av base) : RdU w v b := by
  refine ⟨Rd.of_own h, fun g hg => ?_⟩
  rcases h.2 with ⟨rfl, _⟩ | ⟨g1, cap, cur, rfl, hb, hh, r⟩
  · cases hg
  · simp only [Value.ownBlock, Option.some.injEq] at hg
    subst hg
    exact ⟨⟨cur, _, hh⟩, fun e => by have := ha _ e; omega⟩
theorem RdU.nil [Inhabited (Option Nat)] (w : World) : RdU w (.slice none 0 0) [] := ⟨Rd.nil _ _, fun g hg => by cases hg⟩
theorem RdU.slice [Inhabited (Option Nat)] {w : World} {v : Value} {b : Bs} (h : RdU w v b) : ∃ a c, v = .slice a b.length c := h.1.slice

/-- A value of one cell is stored into a cell. -/
theorem run_storeVar_cell {P : Program} (w : World) (g off : Nat) (t ty : TypeId) (cur : List Value) (v : Value) (hg : CB w t g cur) (hfit : off < cur.length) (hi : (P.info? ty).map (·.size) = some 1)
    (h1 : v.oneCell' = true) : ∃ w', (storeVar ty ⟨g, off, none⟩ v).run P w = .ok () w' ∧ CB w' t g (cur.set off v) ∧ Only g w w' := by
  have hst := run_storeCells_at P g off t [v] 0 cur.toArray w hg (by simp; omega) (fun x hx => by simp at hx; subst hx; exact h1)
  simp only [Nat.add_zero] at hst
  have hc : v.cells = #[v] := by cases v <;> first | rfl | cases h1
  have e1 : cur.toArray.toList.take off ++ [v] ++ cur.toArray.toList.drop (off + [v].length) = cur.set off v := by
    rw [List.set_eq_take_append_cons_drop]
    simp [hfit]
  rw [e1] at hst
  cases hq : P.info? ty with
  | none => simp [hq] at hi
  | some i =>
    have hs : i.size = 1 := by simpa [hq] using hi
    refine ⟨w.setRow g (cur.set off v).toArray, by simp [storeVar, sizeOf, typeInfo, hq, hs, hc, hst], ?_, ⟨rfl, rfl, rfl, by simp, fun k hk => setRow_other _ _ _ _ hk⟩⟩
    unfold CB
    rw [setRow_heap _ _ _ _ _ _ hg]

theorem wpList_store_cell [Inhabited (Option Nat)] {P : Program} {ops : Array Oper} {rest : List Oper} {o : Oper} {a : Act} {w : World} {Q : Exit → Act → World → Prop} (hgd : o.guard = none) (ty : TypeId) (x y : Operand) (ho : o.op = .store ty x y)
    (g off : Nat) (t : TypeId) (hx : a.eval x = .pointer (some ⟨g, off, none⟩)) (cur : List Value) (v : Value) (hy : a.eval y = v) (h1 : v.oneCell' = true) (hg : CB w t g cur) (hfit : off < cur.length)
    (hi : (P.info? ty).map (·.size) = some 1)
    (h : ∀ w', CB w' t g (cur.set off v) → Only g w w' → wpList P ops Q rest (a.put o.dst undef) w') : wpList P ops Q (o :: rest) a w := by
  obtain ⟨w', hr, hc, hon⟩ := run_storeVar_cell (P := P) w g off t ty cur v hg hfit hi h1
  refine wpList_plain hgd fun _ hK => ?_
  unfold Oper.wp execOp
  simp only [ho, hx, hy, Instr.storeAt, Instr.sureAddr, Sem.run_bind, Sem.run_pure, Result.andThen_ok, hr]
  exact hK _ _ (h _ hc hon)

/-- Cells laid into a block. -/
theorem heap_setCells (g : Nat) (e : TypeId) : ∀ (vs : List Value) (o : Nat) (w : World) (cur : List Value), CB w e g cur → o + vs.length ≤ cur.length →
    CB (w.setCells g o vs) e g (cur.take o ++ vs ++ cur.drop (o + vs.length)) ∧ Only g w (w.setCells g o vs)
  | [], o, w, cur, h, _ => ⟨by simpa [World.setCells] using h, ⟨rfl, rfl, rfl, rfl, fun _ _ => rfl⟩⟩
  | v :: r, o, w, cur, h, hl => by
    simp only [List.length_cons] at hl
    have h1 : CB (w.setCell ⟨g, o, none⟩ v) e g (cur.set o v) := by
      have h' : w.heap[g]? = _ := h
      unfold CB
      rw [heap_setCell_same _ _ _ _ _ _ h']
      simp
    have b1 : Below g w (w.setCell ⟨g, o, none⟩ v) := (Below.refl g w).setCell (Nat.le_refl _) v
    have o1 : Only g w (w.setCell ⟨g, o, none⟩ v) := ⟨b1.os, b1.tape, b1.output, by simp, fun k hk => heap_setCell_other _ _ _ _ hk⟩
    obtain ⟨h2, o2⟩ := heap_setCells g e r (o + 1) _ (cur.set o v) h1 (by simp; omega)
    refine ⟨?_, ⟨o2.os.trans o1.os, o2.tape.trans o1.tape, o2.output.trans o1.output, o2.size.trans o1.size, fun k hk => (o2.block k hk).trans (o1.block k hk)⟩⟩
    have e1 : (cur.set o v).take (o + 1) ++ r ++ (cur.set o v).drop (o + 1 + r.length) = cur.take o ++ v :: r ++ cur.drop (o + (r.length + 1)) := by
      rw [List.drop_set_of_lt (by omega), List.take_set, List.take_succ_eq_append_getElem (by omega)]
      rw [List.set_append_right _ _ (by simp; omega)]
      have : o - (cur.take o).length = 0 := by simp; omega
      rw [this]
      simp [Nat.add_assoc, Nat.add_comm 1]
    rw [e1] at h2
    exact h2

/-- A view of a row: a slice's elements, in a block of their type; what lies behind may be written. -/
def VwS (w : World) (e : TypeId) (size : Nat) (v : Value) (n : Nat) (cs : List Value) : Prop :=
  (v = .slice none 0 0 ∧ n = 0 ∧ cs = []) ∨ ∃ g off c cur, v = .slice (some ⟨g, off, none⟩) n c ∧ n ≤ c ∧ c ≤ maxLen ∧ CB w e g cur ∧ off + c * size ≤ cur.length ∧ cs.length = n * size ∧ (cur.drop off).take (n * size) = cs

theorem VwS.nil (w : World) (e : TypeId) (size : Nat) : VwS w e size (.slice none 0 0) 0 [] := .inl ⟨rfl, rfl, rfl⟩

theorem VwS.slice {w : World} {e : TypeId} {size : Nat} {v : Value} {n : Nat} {cs : List Value} (h : VwS w e size v n cs) : ∃ a c, v = .slice a n c := by
  rcases h with ⟨rfl, rfl, rfl⟩ | ⟨g, off, c, cur, rfl, _⟩
  · exact ⟨none, 0, rfl⟩
  · exact ⟨_, c, rfl⟩

theorem VwS.tag {w : World} {e : TypeId} {size : Nat} {v : Value} {n : Nat} {cs : List Value} (h : VwS w e size v n cs) : ∀ g, v.ownBlock = some g → Tag w g e := by
  intro g hg
  rcases h with ⟨rfl, _⟩ | ⟨g1, off, c, cur, rfl, _, _, hc, _⟩
  · cases hg
  · simp only [Value.ownBlock, Option.some.injEq] at hg
    subst hg
    exact hc.tag

theorem VwS.kept {w w' : World} {e : TypeId} {size : Nat} {v : Value} {n : Nat} {cs : List Value} (h : VwS w e size v n cs) (hk : ∀ g, v.ownBlock = some g → Tag w g e → w'.heap[g]? = w.heap[g]?) : VwS w' e size v n cs := by
  rcases h with h | ⟨g, off, c, cur, rfl, h1, h2, hc, h3⟩
  · exact .inl h
  · exact .inr ⟨g, off, c, cur, rfl, h1, h2, hc.kept (hk g rfl hc.tag), h3⟩
theorem VwS.fresh [Inhabited (Option Nat)] {w w' : World} {e : TypeId} {size : Nat} {v : Value} {n : Nat} {cs : List Value} (h : VwS w e size v n cs) (hb : Below w.heap.size w w') : VwS w' e size v n cs := h.kept fun g _ ht => hb.block g ht.lt
theorem VwS.only [Inhabited (Option Nat)] {w w' : World} {e e' : TypeId} {size r : Nat} {v : Value} {n : Nat} {cs : List Value} (h : VwS w e size v n cs) (ho : Only r w w') (hr : Tag w r e') (he : e ≠ e') : VwS w' e size v n cs := h.kept fun g _ ht => ho.block g (ht.ne hr he)

theorem VwS.rd {w : World} {e : TypeId} {size : Nat} {v : Value} {n : Nat} {cs : List Value} (h : VwS w e size v n cs) : Rd w size v n cs := by
  rcases h with ⟨rfl, rfl, rfl⟩ | ⟨g, off, c, cur, rfl, h1, h2, hc, h3, h4, h5⟩
  · exact Rd.nil _ _
  · refine ⟨h4, .inr ⟨_, _, rfl, h1, h2, fun j u hj => ?_⟩⟩
    rw [add_at]
    refine hc.cell _ _ ?_
    rw [← h5, List.getElem?_take] at hj
    split at hj
    · rwa [List.getElem?_drop] at hj
    · cases hj

theorem VwS.of_own {w : World} {base : Nat} {e : TypeId} {size : Nat} {v : Value} {n : Nat} {cs : List Value} (h : w.ownsRow base e size v n cs) : VwS w e size v n cs := by
  rcases h.2 with ⟨rfl, h0⟩ | ⟨g, cap, cur, rfl, hbg, hg, hnc, hcm, hcs, htake⟩
  · subst h0
    exact .inl ⟨rfl, rfl, List.eq_nil_of_length_eq_zero (by simpa using h.1)⟩
  · exact .inr ⟨g, 0, cap, cur.toList, rfl, hnc, hcm, hg, by simp [hcs], h.1, by simpa [h.1] using htake⟩

end Go.Proofs.Ytbbbgpdhdlknjaa
