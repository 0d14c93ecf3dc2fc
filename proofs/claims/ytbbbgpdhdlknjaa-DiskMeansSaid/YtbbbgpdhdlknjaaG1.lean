/- Texts Kit Agg Plan PlanF Plm Ord RowKit Open Slc Yp Ye, one behind the other. -/
import Derived.WalkKit
import Derived.WalkSpells
import Derived.OneCell
import Derived.Lib.Hide
import Derived.WalkSmall
import Derived.Laws.AppendOwnNone
import Derived.Laws.Rows
import Derived.Laws.BytesArg
import Derived.Deep.QuietTactic
import Derived.BigQuiet
import Derived.Laws.CopyRow
import Derived.OrdersHeld
import Derived.ProofKit
import Derived.OpenShut
import Derived.Deep.Slices
/- Words and laws over any program: what a slice value reads in memory, and append of whatever source. -/
namespace Go.Proofs.Ytbbbgpdhdlknjaa
set_option linter.unusedVariables false
set_option linter.unusedSimpArgs false
open Go.RowKit

/-- A byte as a cell. -/
def bv (x : UInt8) : Value := .int .u8 (x.toNat : Int)
/-- Bytes as cells. -/
def bvs (l : List UInt8) : List Value := l.map bv

@[simp] theorem bvs_length (l : List UInt8) : (bvs l).length = l.length := by simp [bvs]
@[simp] theorem bvs_append (a b : List UInt8) : bvs (a ++ b) = bvs a ++ bvs b := by simp [bvs]

/-- The slice value v of n elements (size cells each) reads the cells cs. -/
def Rd (w : World) (size : Nat) (v : Value) (n : Nat) (cs : List Value) : Prop :=
  cs.length = n * size ∧ ((v = .slice none 0 0 ∧ n = 0) ∨ ∃ ad c, v = .slice (some ad) n c ∧ n ≤ c ∧ c ≤ maxLen ∧ ∀ j u, cs[j]? = some u → w.cell? (ad.add j) = some u)

theorem Rd.nil (w : World) (size : Nat) : Rd w size (.slice none 0 0) 0 [] := ⟨by simp, .inl ⟨rfl, rfl⟩⟩

theorem Rd.of_own {w : World} {base : Nat} {e : TypeId} {size : Nat} {v : Value} {n : Nat} {xs : List Value} (h : w.ownsRow base e size v n xs) : Rd w size v n xs := by
  refine ⟨h.1, ?_⟩
  rcases h.2 with h2 | ⟨g, cap, cur, hv, hg, hh, hn, hc, hs, ht⟩
  · exact .inl h2
  · exact .inr ⟨⟨g, 0, none⟩, cap, hv, hn, hc, h.cells (g := g) (by simp [hv, Value.ownBlock])⟩

/-- A goal at which the walk stands still. -/
def Stop (p : Prop) : Prop := p
theorem Stop.mk {p : Prop} (h : Stop p) : p := h
theorem Stop.go {p : Prop} (h : p) : Stop p := h

theorem Addr.add_block (ad : Addr) (j : Nat) : (ad.add j).block = ad.block := by unfold Addr.add; split <;> rfl

theorem Rd.kept {w w' : World} {size : Nat} {v : Value} {n : Nat} {cs : List Value} (h : Rd w size v n cs)
    (hk : ∀ k, k < w.heap.size → v.ownBlock = some k → w'.heap[k]? = w.heap[k]?) : Rd w' size v n cs := by
  refine ⟨h.1, ?_⟩
  rcases h.2 with h2 | ⟨ad, c, hv, hn, hc, hcell⟩
  · exact .inl h2
  · refine .inr ⟨ad, c, hv, hn, hc, fun j u hj => ?_⟩
    have h0 := hcell j u hj
    have hlt := block_lt_of_cell h0
    rw [World.cell?_of_block (w := w)]
    · exact h0
    · rw [Addr.add_block] at hlt ⊢
      exact hk _ hlt (by simp [hv, Value.ownBlock])

theorem Rd.fresh {w w' : World} {size : Nat} {v : Value} {n : Nat} {cs : List Value} (h : Rd w size v n cs) (hb : Below w.heap.size w w') : Rd w' size v n cs :=
  h.kept fun k hk _ => hb.block k hk

theorem Rd.setCell {w : World} {size : Nat} {v : Value} {n : Nat} {cs : List Value} (h : Rd w size v n cs) {a : Addr} (ha : v.ownBlock ≠ some a.block) (u : Value) : Rd (w.setCell a u) size v n cs :=
  h.kept fun k _ hv => heap_setCell_other _ _ _ _ (fun e => ha (by rw [hv, e]))

theorem own_ne {w : World} {base : Nat} {e T : TypeId} {size b : Nat} {v : Value} {n : Nat} {xs : List Value} {cs : Array Value} {fz : Nat × Nat}
    (h : w.ownsRow base e size v n xs) (hb : w.heap[b]? = some (.cells cs T fz)) (hT : T ≠ e) : v.ownBlock ≠ some b := by
  intro e1
  rcases h.2 with ⟨rfl, _⟩ | ⟨g, cap, cur, rfl, _, hg, _⟩
  · simp [Value.ownBlock] at e1
  · simp [Value.ownBlock] at e1
    subst e1
    rw [hb] at hg
    simp at hg
    exact hT hg.2.1

theorem own_slice {w : World} {base : Nat} {e : TypeId} {size : Nat} {v : Value} {n : Nat} {xs : List Value}
    (h : w.ownsRow base e size v n xs) : ∃ a c, v = .slice a n c := by
  rcases h.2 with ⟨rfl, rfl⟩ | ⟨g, cap, cur, rfl, _⟩
  · exact ⟨_, _, rfl⟩
  · exact ⟨_, _, rfl⟩

theorem Rd.slice {w : World} {size : Nat} {v : Value} {n : Nat} {xs : List Value}
    (h : Rd w size v n xs) : ∃ a c, v = .slice a n c := by
  rcases h.2 with ⟨rfl, rfl⟩ | ⟨ad, cap, rfl, _⟩
  · exact ⟨_, _, rfl⟩
  · exact ⟨_, _, rfl⟩

/-- A store into a block that holds no byte at all leaves what reads as bytes. -/
theorem Rd.setOff {w : World} {v : Value} {n b : Nat} {ys : List UInt8} (h : Rd w 1 v n (bvs ys)) {cs : Array Value} {T : TypeId} {fz : Nat × Nat}
    (hb : w.heap[b]? = some (.cells cs T fz)) (hcs : ∀ (i : Nat) (x : Int), cs[i]? ≠ some (Value.int .u8 x)) {a : Addr} (ha : a.block = b) (u : Value) : Rd (w.setCell a u) 1 v n (bvs ys) := by
  refine ⟨h.1, ?_⟩
  rcases h.2 with h2 | ⟨ad, c, hv, hn, hc, hcell⟩
  · exact .inl h2
  · refine .inr ⟨ad, c, hv, hn, hc, fun j x hj => ?_⟩
    have h0 := hcell j x hj
    by_cases e : ad.block = b
    · exfalso
      obtain ⟨y, hy⟩ : ∃ y : Int, x = .int .u8 y := by
        simp only [bvs, List.getElem?_map, Option.map_eq_some_iff] at hj
        obtain ⟨z, _, rfl⟩ := hj
        exact ⟨_, rfl⟩
      subst hy
      simp only [World.cell?, Addr.add_block, e, hb] at h0
      split at h0
      · simp at h0
      · exact hcs _ _ h0
    · rw [World.cell?_of_block (w := w)]
      · exact h0
      · rw [Addr.add_block]
        exact heap_setCell_other _ _ _ _ (by rw [ha]; exact e)

theorem own_fresh {w w' : World} {base : Nat} {e : TypeId} {size : Nat} {v : Value} {n : Nat} {xs : List Value}
    (h : w.ownsRow base e size v n xs) (hb : Below w.heap.size w w') : w'.ownsRow base e size v n xs :=
  h.kept (row := none) ⟨hb.os, hb.tape, hb.output, hb.size, fun k hk _ => hb.block k hk⟩ (by
    by_cases e : v.ownBlock = none
    · exact .inl e
    · exact .inr e)

/-- What is owned below B stays owned where nothing below B turns. -/
theorem own_below {w w' : World} {B base : Nat} {e : TypeId} {size : Nat} {v : Value} {n : Nat} {xs : List Value}
    (h : w.ownsRow base e size v n xs) (hb : Below B w w') (hu : ∀ k, v.ownBlock = some k → k < B) : w'.ownsRow base e size v n xs := by
  refine ⟨h.1, ?_⟩
  rcases h.2 with h2 | ⟨g, cap, cur, hv, hg, hh, r⟩
  · exact .inl h2
  · exact .inr ⟨g, cap, cur, hv, hg, by rw [hb.block g (hu g (by simp [hv, Value.ownBlock]))]; exact hh, r⟩

theorem add_add_addr (a : Addr) (i j : Nat) : (a.add i).add j = a.add (i + j) := by
  unfold Addr.add
  by_cases hi : i = 0 <;> by_cases hj : j = 0 <;> simp [hi, hj, Nat.add_assoc]

theorem Rd.take {w : World} {ad : Addr} {len c : Nat} {l : List UInt8} (h : Rd w 1 (.slice (some ad) len c) len (bvs l)) (n c' : Nat) (hn : n ≤ len) (hc : n ≤ c') (hm : c' ≤ maxLen) :
    Rd w 1 (.slice (some ad) n c') n (bvs (l.take n)) := by
  have hl : l.length = len := by simpa using h.1
  rcases h.2 with ⟨e, _⟩ | ⟨ad', c0, e, _, _, hcell⟩
  · simp at e
  · simp at e; obtain ⟨rfl, rfl⟩ := e
    refine ⟨by simp; omega, .inr ⟨ad, c', rfl, hc, hm, fun j u hj => hcell j u ?_⟩⟩
    simp only [bvs, List.map_take, List.getElem?_take] at hj ⊢
    split at hj
    · exact hj
    · cases hj

theorem Rd.drop {w : World} {ad : Addr} {len c : Nat} {l : List UInt8} (h : Rd w 1 (.slice (some ad) len c) len (bvs l)) (n c' : Nat) (hn : n ≤ len) (hc : len - n ≤ c') (hm : c' ≤ maxLen) :
    Rd w 1 (.slice (some (ad.add n)) (len - n) c') (len - n) (bvs (l.drop n)) := by
  have hl : l.length = len := by simpa using h.1
  rcases h.2 with ⟨e, _⟩ | ⟨ad', c0, e, _, _, hcell⟩
  · simp at e
  · simp at e; obtain ⟨rfl, rfl⟩ := e
    refine ⟨by simp; omega, .inr ⟨ad.add n, c', rfl, hc, hm, fun j u hj => ?_⟩⟩
    rw [add_add_addr]
    refine hcell (n + j) u ?_
    simpa [bvs, List.getElem?_drop] using hj

theorem grown_fresh {w w' : World} {row : Option Nat} (h : Below w.heap.size w w') : w.grownBy w' row := ⟨h.os, h.tape, h.output, h.size, fun k hk _ => h.block k hk⟩

theorem grown_trans {u v w : World} {row : Option Nat} (h : u.grownBy v row) (g : v.grownBy w row) : u.grownBy w row :=
  ⟨g.os.trans h.os, g.tape.trans h.tape, g.output.trans h.output, Nat.le_trans h.size g.size, fun k hk hne => (g.block k (Nat.lt_of_lt_of_le hk h.size) hne).trans (h.block k hk hne)⟩

theorem grown_below {w w' : World} {r B : Nat} (h : w.grownBy w' (some r)) (hB : B ≤ r) (hs : B ≤ w.heap.size) : Below B w w' :=
  ⟨h.os, h.tape, h.output, h.size, fun k hk => h.block k (by omega) (fun e => by cases e; omega)⟩

/-- The value's block stands below B. -/
def Under (B : Nat) (v : Value) : Prop := ∀ k, v.ownBlock = some k → k < B

theorem Rd.under {w w' : World} {size B : Nat} {v : Value} {n : Nat} {cs : List Value} (h : Rd w size v n cs) (hu : Under B v) (hb : Below B w w') : Rd w' size v n cs :=
  h.kept fun k _ hv => hb.block k (hu k hv)

theorem Below.drewl {B : Nat} {w w' : World} (h : Below B w w') : Below B w w'.drew := h.drew

/-- The slice value is nil, or of the old row, or of a row that is new since w. -/
def Grew (w : World) (v v' : Value) : Prop := ∀ k, v'.ownBlock = some k → v.ownBlock = some k ∨ w.heap.size ≤ k

theorem run_append_rd {P : Program} (w : World) (base : Nat) (t ty e : TypeId) (i : TypeInfo) (z : Value) (size bytes : Nat) (ht : P.underlying t = some (.slice e)) (hi : P.info? e = some i) (hz : i.zero = some z)
    (hsize : i.size = size) (hby : i.bytes = bytes) (hzs : z.cells.size = size) (hsz : 0 < size)
    (v : Value) (n : Nat) (xs : List Value) (hown : w.ownsRow base e size v n xs)
    (v2 : Value) (m : Nat) (news : List Value) (hrd : Rd w size v2 m news) (h1 : ∀ u ∈ news, u.oneCell' = true)
    (h63 : n + m ≤ maxLen) (hbytes : (n + m) * bytes ≤ 140737488355328) (hbase : base ≤ w.heap.size) :
    ∃ v' w', (Builtin.append_ #[t, t] ty #[v, v2]).run P w = .ok v' w' ∧ w'.ownsRow base e size v' (n + m) (xs ++ news) ∧ w.grownBy w' v.ownBlock ∧
      (v' = .slice none 0 0 ↔ v = .slice none 0 0 ∧ m = 0) ∧ Grew w v v' := by
  obtain ⟨hl, h2⟩ := hrd
  rcases h2 with ⟨rfl, rfl⟩ | ⟨ad, c, rfl, hmc, hc, hcell⟩
  · have hn : news = [] := List.eq_nil_of_length_eq_zero (by simpa using hl)
    subst hn
    refine ⟨v, w, run_append_owned_none (P := P) (w := w) base t ty e i size ht hi v n xs hown, by simpa using hown, World.grownBy.refl _ _, ?_, fun k hk => .inl hk⟩
    rcases hown.2 with ⟨e1, _⟩ | ⟨g, cap, cur, e1, _⟩ <;> simp [e1]
  · obtain ⟨v', w', hr, r1, r2, r3⟩ := run_append_own (P := P) w base t ty e i z size bytes ht hi hz hsize hby hzs hsz v n xs hown ad m c news hl hcell h1 h63 hbytes hbase
    refine ⟨v', w', hr, r1, r2, r3, ?_⟩
    intro k hk
    by_cases hm : v' = .slice none 0 0
    · subst hm; simp [Value.ownBlock] at hk
    subst hsize
    have hsmall : n + m ≤ 9223372036854775807 := by simp only [maxLen] at h63; omega
    rcases hown.2 with ⟨rfl, rfl⟩ | ⟨g, cap, cur, rfl, hbg, hg, hnc, hcm, hcs, htake⟩
    · have hmp : 0 < m := by
        rcases Nat.eq_zero_or_pos m with h0 | h0
        · exact absurd (r3.2 ⟨rfl, h0⟩) hm
        · exact h0
      have hr' := run_append_nil (P := P) w t ty e i z ht hi hz ad m c news hl hcell hmp (by omega) (by rw [hby]; have hb := hbytes; simp only [Nat.zero_add] at hb; omega)
      rw [hr'] at hr
      obtain ⟨rfl, _⟩ := Result.ok.inj hr
      simp [Value.ownBlock] at hk
      exact .inr (by omega)
    · by_cases hroom : n + m ≤ cap
      · have hfit : n * i.size + news.length ≤ cur.size := by rw [hl, hcs, ← Nat.add_mul]; exact Nat.mul_le_mul_right _ hroom
        have hr' := run_append_room (P := P) w t ty e i ht hi g n cap cur hg ad m c news hl hcell h1 hroom hfit
        rw [hr'] at hr
        obtain ⟨rfl, _⟩ := Result.ok.inj hr
        exact .inl hk
      · have holds : ∀ j u, xs[j]? = some u → w.cell? ((⟨g, 0, none⟩ : Addr).add j) = some u := hown.cells (g := g) rfl
        have hr' := run_append_grow (P := P) w t ty e i z ht hi hz ⟨g, 0, none⟩ n cap xs hown.1 holds ad m c news hl hcell (by omega) (by omega) (growslice_fits (by omega) (by rw [hby]; exact hbytes))
        rw [hr'] at hr
        obtain ⟨rfl, _⟩ := Result.ok.inj hr
        simp [Value.ownBlock] at hk
        exact .inr (by omega)

theorem wpList_append_rd {P : Program} (w : World) {ops : Array Oper} {rest : List Oper} {o : Oper} {a : Act} {Q : Exit → Act → World → Prop} (hgd : o.guard = none) (s x : Operand) (t : TypeId)
    (ho : o.op = .call { callee := .builtin .append, args := #[s, x], argTypes := #[t, t] })
    (base : Nat) (e : TypeId) (i : TypeInfo) (z : Value) (size bytes : Nat) (ht : P.underlying t = some (.slice e)) (hi : P.info? e = some i) (hz : i.zero = some z)
    (hsize : i.size = size) (hby : i.bytes = bytes) (hzs : z.cells.size = size) (hsz : 0 < size)
    (v : Value) (n : Nat) (xs : List Value) (hs : a.eval s = v) (hown : w.ownsRow base e size v n xs)
    (v2 : Value) (m : Nat) (news : List Value) (hx : a.eval x = v2) (hrd : Rd w size v2 m news) (h1 : ∀ u ∈ news, u.oneCell' = true)
    (h63 : n + m ≤ maxLen) (hbytes : (n + m) * bytes ≤ 140737488355328) (hbase : base ≤ w.heap.size)
    (h : ∀ v' w', w'.ownsRow base e size v' (n + m) (xs ++ news) → w.grownBy w' v.ownBlock → (v' = .slice none 0 0 ↔ v = .slice none 0 0 ∧ m = 0) → Grew w v v' → wpList P ops Q rest (a.put o.dst v') w') : wpList P ops Q (o :: rest) a w := by
  refine wpList_plain hgd fun K hK => ?_
  obtain ⟨v', w', hr, h2, h3, h4, h5⟩ := run_append_rd (P := P) w base t o.type e i z size bytes ht hi hz hsize hby hzs hsz v n xs hown v2 m news hrd h1 h63 hbytes hbase
  unfold Oper.wp execOp
  simp only [ho, resolve, invoke, builtin, Sem.run_bind, Sem.run_pure, Result.andThen_ok, List.map_toArray, List.map_cons, List.map_nil, hs, hx, hr]
  exact hK _ _ (h v' w' h2 h3 h4 h5)

theorem bvs_one (l : List UInt8) : ∀ u ∈ bvs l, u.oneCell' = true := by
  intro u hu
  simp only [bvs, List.mem_map] at hu
  obtain ⟨x, _, rfl⟩ := hu
  rfl


/-- Block g of the world is a row of these bytes (of elements of type e). -/
def BB (w : World) (e : TypeId) (g : Nat) (L : List UInt8) : Prop := w.heap[g]? = some (.cells (bvs L).toArray e (0, 0))

theorem BB.lt {w : World} {e : TypeId} {g : Nat} {L : List UInt8} (h : BB w e g L) : g < w.heap.size := lt_of_block h

theorem BB.cell {w : World} {e : TypeId} {g : Nat} {L : List UInt8} (h : BB w e g L) (k : Nat) (x : UInt8) (hx : L[k]? = some x) : w.cell? ⟨g, k, none⟩ = some (bv x) := by
  have h' : w.heap[g]? = _ := h
  simp [World.cell?, h', bvs, hx]

theorem BB.free {w : World} {e : TypeId} {g : Nat} {L : List UInt8} (h : BB w e g L) (k : Nat) : w.frozen? ⟨g, k, none⟩ = false := by
  have h' : w.heap[g]? = _ := h
  simp [World.frozen?, h']

theorem BB.set {w : World} {e : TypeId} {g : Nat} {L : List UInt8} (h : BB w e g L) (k : Nat) (x : UInt8) : BB (w.setCell ⟨g, k, none⟩ (bv x)) e g (L.set k x) := by
  have h' : w.heap[g]? = _ := h
  unfold BB
  rw [heap_setCell_same _ _ _ _ _ _ h']
  simp [bvs, List.map_set]

theorem BB.other {w : World} {e : TypeId} {g : Nat} {L : List UInt8} (h : BB w e g L) {a : Addr} (ha : a.block ≠ g) (v : Value) : BB (w.setCell a v) e g L := by
  unfold BB
  rw [heap_setCell_other _ _ _ _ (fun e => ha e.symm)]
  exact h

theorem BB.fresh {w w' : World} {e : TypeId} {g : Nat} {L : List UInt8} (h : BB w e g L) (hb : Below w.heap.size w w') : BB w' e g L := by
  unfold BB
  rw [hb.block g h.lt]
  exact h

theorem BB.below {w w' : World} {e : TypeId} {g B : Nat} {L : List UInt8} (h : BB w e g L) (hb : Below B w w') (hg : g < B) : BB w' e g L := by
  unfold BB
  rw [hb.block g hg]
  exact h

theorem BB.rd {w : World} {e : TypeId} {g : Nat} {L : List UInt8} (h : BB w e g L) (o n c : Nat) (hon : o + n ≤ L.length) (hn : n ≤ c) (hc : c ≤ maxLen) :
    Rd w 1 (.slice (some ⟨g, o, none⟩) n c) n (bvs ((L.drop o).take n)) := by
  refine ⟨by simp; omega, .inr ⟨_, _, rfl, hn, hc, fun j u hj => ?_⟩⟩
  have hj' : j < n := by
    have := (List.getElem?_eq_some_iff.1 hj).1
    simp at this; omega
  have e1 : (⟨g, o, none⟩ : Addr).add j = ⟨g, o + j, none⟩ := by
    unfold Addr.add; split <;> simp_all
  rw [e1, h.cell (o + j) (L[o + j]'(by omega)) (by simp)]
  have : (bvs ((L.drop o).take n))[j]? = some (bv (L[o + j]'(by omega))) := by
    simp [bvs, hj']
    exact ⟨_, by rw [List.getElem?_eq_getElem], rfl⟩
  rw [this] at hj
  exact hj

theorem BB.of_own {w : World} {base : Nat} {e : TypeId} {a : Option Addr} {n c : Nat} {L : List UInt8} (h : w.ownsRow base e 1 (.slice a n c) n (bvs L)) :
    (a = none ∧ n = 0 ∧ c = 0) ∨ ∃ g S, a = some ⟨g, 0, none⟩ ∧ base ≤ g ∧ w.heap[g]? = some (.cells S e (0, 0)) ∧ S.size = c ∧ n ≤ c ∧ c ≤ maxLen ∧ S.toList.take n = bvs L := by
  rcases h.2 with ⟨h1, h2⟩ | ⟨g, cap, cur, h1, h2, h3, h4, h5, h6, h7⟩
  · simp at h1; exact .inl ⟨h1.1, h2, h1.2.2⟩
  · simp at h1; obtain ⟨rfl, rfl⟩ := h1
    exact .inr ⟨g, cur, rfl, h2, h3, by simpa using h6, h4, h5, by simpa using h7⟩

theorem BB.full {w : World} {base : Nat} {e : TypeId} {g n : Nat} {L : List UInt8} (h : w.ownsRow base e 1 (.slice (some ⟨g, 0, none⟩) n n) n (bvs L)) : BB w e g L := by
  rcases BB.of_own h with ⟨h1, _⟩ | ⟨g', S, h1, _, h3, h4, h5, h6, h7⟩
  · simp at h1
  · simp at h1; subst h1
    have hS : S = (bvs L).toArray := by
      apply Array.ext'
      rw [← h7, List.take_of_length_le (by simp [h4])]
    subst hS
    exact h3

theorem BB.rdAll {w : World} {e : TypeId} {g : Nat} {L : List UInt8} (h : BB w e g L) (hl : L.length ≤ maxLen) :
    Rd w 1 (.slice (some ⟨g, 0, none⟩) L.length L.length) L.length (bvs L) := by
  have := h.rd 0 L.length L.length (by omega) (Nat.le_refl _) hl
  simpa using this

theorem BB.new (w : World) (e : TypeId) (L : List UInt8) : BB (w.alloc (.cells (bvs L).toArray e)) e w.heap.size L := heap_alloc_new w _

theorem bv_ofNat (x : Nat) : bv (UInt8.ofNat x) = .int .u8 ((x : Int) % 256) := by
  simp [bv, UInt8.toNat_ofNat']

/-- A number's bytes, the lowest first. -/
def le (m : Nat) : Nat → List UInt8
  | 0 => []
  | k + 1 => le m k ++ [UInt8.ofNat (m / 2 ^ (8 * k))]

@[simp] theorem le_length (m k : Nat) : (le m k).length = k := by induction k <;> simp [le, *]

theorem le_step (m k s : Nat) (h : k < s) : (le m k ++ List.replicate (s - k) 0).set k (UInt8.ofNat (m / 2 ^ (8 * k))) = le m (k + 1) ++ List.replicate (s - (k + 1)) 0 := by
  rw [List.set_append_right _ _ (by simp), le_length, Nat.sub_self, show s - k = (s - (k + 1)) + 1 by omega, List.replicate_succ]
  simp [le]

end Go.Proofs.Ytbbbgpdhdlknjaa

/- Laws over any program: whole structs and arrays read and stored; places where the walk stands still. -/
namespace Go.Proofs.Ytbbbgpdhdlknjaa
set_option linter.unusedVariables false
set_option linter.unusedSimpArgs false
open Go.RowKit

theorem ret_bool {a b : Bool} (h : a = b) : Ending.returned (.bool a) = Ending.returned (.bool b) := by rw [h]
theorem ret_i {k : IntKind} {a b : Int} (h : a = b) : Ending.returned (.int k a) = Ending.returned (.int k b) := by rw [h]
theorem dec_iff {p q : Prop} [Decidable p] [Decidable q] (h : p ↔ q) : decide p = decide q := decide_eq_decide.2 h

theorem stopAt (n : Nat) {P : Program} {ops : Array Oper} {Q : Exit → Act → World → Prop} {op : Op} {ty : TypeId} {pos : String} {after : Array Edge} {g : Option (Nat × Bool)} {rest : List Oper} {a : Act} {w : World}
    (h : Stop (wpList P ops Q (⟨some n, op, ty, pos, after, g⟩ :: rest) a w)) : wpList P ops Q (⟨some n, op, ty, pos, after, g⟩ :: rest) a w := h

theorem stopStore (t : TypeId) {P : Program} {ops : Array Oper} {Q : Exit → Act → World → Prop} {x y : Operand} {ty : TypeId} {pos : String} {after : Array Edge} {g : Option (Nat × Bool)} {rest : List Oper} {a : Act} {w : World}
    (h : Stop (wpList P ops Q (⟨none, .store t x y, ty, pos, after, g⟩ :: rest) a w)) : wpList P ops Q (⟨none, .store t x y, ty, pos, after, g⟩ :: rest) a w := h

def isAggD (d : TypeDesc) : Bool := match d with | .struct _ | .array _ _ => true | _ => false

theorem run_isAgg_true {P : Program} {ty : TypeId} {d : TypeDesc} (w : World) (hu : P.underlying ty = some d) (hd : isAggD d = true) : (isAgg ty).run P w = .ok true w := by
  unfold isAgg
  rw [Sem.run_bind, run_underlying hu w]
  cases d <;> simp_all [isAggD]

theorem run_loadVar_agg {P : Program} (w : World) (ad : Addr) (ty : TypeId) (cs : List Value) (d : TypeDesc) (hc : ∀ j u, cs[j]? = some u → w.cell? (ad.add j) = some u)
    (hu : P.underlying ty = some d) (hd : isAggD d = true) (hi : (P.info? ty).map (·.size) = some cs.length) :
    (loadVar ty ad).run P w = .ok (.agg cs.toArray) w := by
  have hl := run_loadCells_list (P := P) w ad cs hc
  cases hq : P.info? ty with
  | none => simp [hq] at hi
  | some i =>
    have hs : i.size = cs.length := by simpa [hq] using hi
    simp [loadVar, Sem.run_bind, run_isAgg_true w hu hd, sizeOf, typeInfo, hq, hs, hl]

theorem wpList_load_agg {P : Program} {ops : Array Oper} {rest : List Oper} {o : Oper} {a : Act} {w : World} {Q : Exit → Act → World → Prop} (hgd : o.guard = none) (ty : TypeId) (x : Operand) (ho : o.op = .load ty x)
    (ad : Addr) (hx : a.eval x = .pointer (some ad)) (cs : List Value) (d : TypeDesc) (hc : ∀ j u, cs[j]? = some u → w.cell? (ad.add j) = some u)
    (hu : P.underlying ty = some d) (hd : isAggD d = true) (hi : (P.info? ty).map (·.size) = some cs.length)
    (h : wpList P ops Q rest (a.put o.dst (.agg cs.toArray)) w) : wpList P ops Q (o :: rest) a w := by
  refine wpList_plain hgd fun _ hK => ?_
  unfold Oper.wp execOp
  simp only [ho, hx, Instr.loadAt, Instr.sureAddr, Sem.run_bind, Sem.run_pure, Result.andThen_ok, run_loadVar_agg w ad ty cs d hc hu hd hi]
  exact hK _ _ h

theorem run_storeVar_agg {P : Program} (w : World) (g off : Nat) (ty t : TypeId) (cur : Array Value) (cs : List Value) (hg : w.heap[g]? = some (.cells cur t (0, 0)))
    (hfit : off + cs.length ≤ cur.size) (h1 : ∀ u ∈ cs, u.oneCell' = true) (hi : (P.info? ty).map (·.size) = some cs.length) :
    (storeVar ty ⟨g, off, none⟩ (.agg cs.toArray)).run P w = .ok () (w.setRow g (cur.toList.take off ++ cs ++ cur.toList.drop (off + cs.length)).toArray) := by
  have hst := run_storeCells_at P g off t cs 0 cur w hg (by simpa using hfit) h1
  simp only [Nat.add_zero] at hst
  cases hq : P.info? ty with
  | none => simp [hq] at hi
  | some i =>
    have hs : i.size = cs.length := by simpa [hq] using hi
    simp [storeVar, Value.cells, sizeOf, typeInfo, hq, hs, hst]

theorem wpList_store_agg {P : Program} {ops : Array Oper} {rest : List Oper} {o : Oper} {a : Act} {w : World} {Q : Exit → Act → World → Prop} (hgd : o.guard = none) (ty : TypeId) (x y : Operand) (ho : o.op = .store ty x y)
    (g off : Nat) (t : TypeId) (hx : a.eval x = .pointer (some ⟨g, off, none⟩)) (cur : Array Value) (cs : List Value) (hy : a.eval y = .agg cs.toArray) (hg : w.heap[g]? = some (.cells cur t (0, 0)))
    (hfit : off + cs.length ≤ cur.size) (h1 : ∀ u ∈ cs, u.oneCell' = true) (hi : (P.info? ty).map (·.size) = some cs.length)
    (h : wpList P ops Q rest (a.put o.dst undef) (w.setRow g (cur.toList.take off ++ cs ++ cur.toList.drop (off + cs.length)).toArray)) : wpList P ops Q (o :: rest) a w := by
  refine wpList_plain hgd fun _ hK => ?_
  unfold Oper.wp execOp
  simp only [ho, hx, hy, Instr.storeAt, Instr.sureAddr, Sem.run_bind, Sem.run_pure, Result.andThen_ok, run_storeVar_agg w g off ty t cur cs hg hfit h1 hi]
  exact hK _ _ h

theorem eqGuard_agg {P : Program} (w : World) (op : BinOp) (t : TypeId) (x y : Operand) (a b : Array Value) (h : P.eqGuardType P.depth t = false) : (eqGuard op t x y (.agg a) (.agg b)).run P w = .ok () w := by
  unfold eqGuard
  cases op <;> simp [Sem.run_bind, h]

theorem run_size_of {P : Program} {t : TypeId} {n : Nat} (h : (P.info? t).map (·.size) = some n) (w : World) : (sizeOf t).run P w = .ok n w := by
  cases hq : P.info? t with
  | none => simp [hq] at h
  | some i =>
    have : i.size = n := by simpa [hq] using h
    simp [sizeOf, typeInfo, hq, this]

theorem wpList_bin {P : Program} {ops : Array Oper} {rest : List Oper} {o : Oper} {a : Act} {w : World} {Q : Exit → Act → World → Prop} (hgd : o.guard = none) (op : BinOp) (t ty : TypeId) (x y : Operand) (ho : o.op = .binOp op t x y ty) (v : Value)
    (hg : (eqGuard op t x y (a.eval x) (a.eval y)).run P w = .ok () w) (hr : (binOp op t (a.eval x) (a.eval y)).run P w = .ok v w)
    (h : wpList P ops Q rest (a.put o.dst v) w) : wpList P ops Q (o :: rest) a w := by
  refine wpList_plain hgd fun _ hK => ?_
  unfold Oper.wp execOp
  simp only [ho, hg, hr, Sem.run_bind, Sem.run_pure, Result.andThen_ok]
  exact hK _ _ h

theorem wpList_bin_g {P : Program} {ops : Array Oper} {rest : List Oper} {o : Oper} {a : Act} {w : World} {Q : Exit → Act → World → Prop} (hw : Region.wanted o (yielded ops a.tmps) = true) (op : BinOp) (t ty : TypeId) (x y : Operand) (ho : o.op = .binOp op t x y ty) (v : Value)
    (hg : (eqGuard op t x y (a.eval x) (a.eval y)).run P w = .ok () w) (hr : (binOp op t (a.eval x) (a.eval y)).run P w = .ok v w)
    (h : wpList P ops Q rest (a.put o.dst v) w) : wpList P ops Q (o :: rest) a w := by
  unfold wpList
  rw [if_pos hw]
  left
  unfold Oper.wp execOp
  simp only [ho, hg, hr, Sem.run_bind, Sem.run_pure, Result.andThen_ok, Oper.upon_value]
  exact h

/-- From w to w' block g alone has turned. -/
structure Only (g : Nat) (w w' : World) : Prop where
  os : w'.os = w.os
  tape : w'.tape = w.tape
  output : w'.output = w.output
  size : w'.heap.size = w.heap.size
  block : ∀ k, k ≠ g → w'.heap[k]? = w.heap[k]?

theorem Below.only {B g : Nat} {a w w' : World} (h : Below B a w) (ho : Only g w w') (hg : B ≤ g) : Below B a w' :=
  ⟨ho.os.trans h.os, ho.tape.trans h.tape, ho.output.trans h.output, by rw [ho.size]; exact h.size, fun k hk => (ho.block k (by omega)).trans (h.block k hk)⟩

theorem Only.grown {g : Nat} {w w' : World} (h : Only g w w') : w.grownBy w' (some g) :=
  ⟨h.os, h.tape, h.output, by rw [h.size]; exact Nat.le_refl _, fun k _ hne => h.block k (fun e => hne (by rw [e]))⟩

theorem grown_newer {u v w : World} {r g : Nat} (h : u.grownBy v (some r)) (ho : Only g v w) (hg : u.heap.size ≤ g) : u.grownBy w (some r) :=
  ⟨ho.os.trans h.os, ho.tape.trans h.tape, ho.output.trans h.output, by rw [ho.size]; exact h.size, fun k hk hne => (ho.block k (by omega)).trans (h.block k hk hne)⟩

theorem BB.only {w w' : World} {e : TypeId} {g r : Nat} {L : List UInt8} (h : BB w e g L) (ho : Only r w w') (hne : g ≠ r) : BB w' e g L := by
  unfold BB
  rw [ho.block g hne]
  exact h

/-- A whole variable is stored into its block: the world behind it is told by what it holds. -/
theorem wpList_store_var {P : Program} {ops : Array Oper} {rest : List Oper} {o : Oper} {a : Act} {w : World} {Q : Exit → Act → World → Prop} (hgd : o.guard = none) (ty : TypeId) (x y : Operand) (ho : o.op = .store ty x y)
    (g : Nat) (t : TypeId) (hx : a.eval x = .pointer (some ⟨g, 0, none⟩)) (cur : Array Value) (cs : List Value) (hy : a.eval y = .agg cs.toArray) (hg : w.heap[g]? = some (.cells cur t (0, 0)))
    (hfit : cur.size = cs.length) (h1 : ∀ u ∈ cs, u.oneCell' = true) (hi : (P.info? ty).map (·.size) = some cs.length)
    (h : ∀ w', w'.heap[g]? = some (.cells cs.toArray t (0, 0)) → Only g w w' → wpList P ops Q rest (a.put o.dst undef) w') : wpList P ops Q (o :: rest) a w := by
  refine wpList_store_agg hgd ty x y ho g 0 t hx cur cs hy hg (by omega) h1 hi (h _ ?_ ⟨rfl, rfl, rfl, by simp, fun k hk => setRow_other _ _ _ _ hk⟩)
  rw [setRow_heap _ _ _ _ _ _ hg]
  have : List.drop (0 + cs.length) cur.toList = [] := by simp [hfit]
  rw [this]; simp

theorem Rd.conv {P : Program} {w : World} {v : Value} {l : List UInt8} (h : Rd w 1 v l.length (bvs l)) (src dst e : TypeId) (hs : P.underlying src = some (.slice e)) (he : P.underlying e = some (.int .u8)) (hd : P.underlying dst = some .string) :
    (convert src dst v).run P w = .ok (.string ⟨l.toArray⟩) w := by
  rcases h.2 with ⟨rfl, h0⟩ | ⟨ad, c, rfl, _, _, hcell⟩
  · have : l = [] := List.eq_nil_of_length_eq_zero h0
    subst this
    exact run_convert_bytes_nil w src e hs he 0 0 dst hd
  · have hl : (loadCells ad l.length).run P w = .ok ((l.map fun x => (x.toNat : Int)).map (Value.int .u8)).toArray w := by
      have := run_loadCells_list (P := P) w ad (bvs l) hcell
      rw [bvs_length] at this
      rw [this]
      simp [bvs, bv, Function.comp_def]
    rw [run_convert_bytes_string w src dst e _ _ c hs he hd, run_bytesToString w _ _ c _ hl, foldl_push_bytes]
    simp [ByteArray.empty, ByteArray.emptyWithCapacity, Function.comp_def]
    rfl

/-- copy(dst, src): dst is the whole of block g, which holds the bytes L; src reads ys. -/
theorem run_copy_all {P : Program} (w : World) (dT sT ty e : TypeId) (g c : Nat) (t : TypeId) (L ys : List UInt8) (v2 : Value) (m : Nat)
    (hu : P.underlying dT = some (.slice e)) (hsz : (P.info? e).map (·.size) = some 1) (hb : BB w t g L) (hr : Rd w 1 v2 m (bvs ys)) :
    ∃ w', (Builtin.copy_ #[dT, sT] ty #[.slice (some ⟨g, 0, none⟩) L.length c, v2]).run P w = .ok (goInt (Nat.min m L.length)) w' ∧ BB w' t g (ys.take L.length ++ L.drop (Nat.min m L.length)) ∧ Only g w w' := by
  have hm : ys.length = m := by simpa using hr.1
  rcases hr.2 with ⟨rfl, h0⟩ | ⟨ad, c2, rfl, _, _, hcell⟩
  · subst h0
    have : ys = [] := List.eq_nil_of_length_eq_zero hm
    subst this
    refine ⟨w, ?_, by simpa using hb, ⟨rfl, rfl, rfl, rfl, fun _ _ => rfl⟩⟩
    simpa using run_copy_nil (P := P) w dT sT ty e ⟨g, 0, none⟩ L.length c hu (by cases hq : P.info? e <;> simp_all)
  · have hlen : (bvs (ys.take L.length)).length = Nat.min m L.length := by
      simp only [bvs_length, List.length_take, hm]
      exact Nat.min_comm _ _
    have hrun := run_copy_row (P := P) w dT sT ty e g 0 L.length c ad m c2 (bvs L).toArray t (bvs (ys.take L.length)) hu hsz hb hlen (fun j u hj => hcell j u (by
      simp only [bvs, List.map_take, List.getElem?_take] at hj ⊢
      split at hj
      · exact hj
      · cases hj)) (by rw [hlen]; simp; exact Nat.min_le_right _ _) (bvs_one _)
    rw [hlen] at hrun
    refine ⟨_, hrun, ?_, ⟨rfl, rfl, rfl, by simp, fun k hk => setRow_other _ _ _ _ hk⟩⟩
    unfold BB
    rw [setRow_heap _ _ _ _ _ _ hb]
    simp [bvs, List.map_drop]

theorem step_copy_all {P : Program} {ops : Array Oper} {o : Oper} {a : Act} {w : World} {K : Act → World → Prop} {Q : Exit → Act → World → Prop} {E : Prop} (hgd : o.guard = none) (d s : Operand) (dT sT : TypeId)
    (ho : o.op = .call { callee := .builtin .copy, args := #[d, s], argTypes := #[dT, sT] }) (e : TypeId) (hu : P.underlying dT = some (.slice e)) (hsz : (P.info? e).map (·.size) = some 1)
    (g n c : Nat) (t : TypeId) (L ys : List UInt8) (v2 : Value) (m : Nat) (hn : L.length = n) (hd : a.eval d = .slice (some ⟨g, 0, none⟩) n c) (hs : a.eval s = v2) (hb : BB w t g L) (hr : Rd w 1 v2 m (bvs ys))
    (h : ∀ w', BB w' t g (ys.take n ++ L.drop (Nat.min m n)) → Only g w w' → K (a.put o.dst (goInt (Nat.min m n))) w') :
    if Region.wanted o (yielded ops a.tmps) = true then Oper.wp P o a w K Q else E := by
  have hw : Region.wanted o (yielded ops a.tmps) = true := by simp [Region.wanted, hgd]
  rw [if_pos hw]
  subst hn
  obtain ⟨w', hrun, h1, h2⟩ := run_copy_all (P := P) w dT sT o.type e g c t L ys v2 m hu hsz hb hr
  unfold Oper.wp
  simp [execOp, ho, resolve, invoke, builtin, hd, hs, hrun, Result.andThen]
  exact h _ h1 h2

theorem wpList_copy_all {P : Program} {ops : Array Oper} {rest : List Oper} {o : Oper} {a : Act} {w : World} {Q : Exit → Act → World → Prop} (hgd : o.guard = none) (d s : Operand) (dT sT : TypeId)
    (ho : o.op = .call { callee := .builtin .copy, args := #[d, s], argTypes := #[dT, sT] }) (e : TypeId) (hu : P.underlying dT = some (.slice e)) (hsz : (P.info? e).map (·.size) = some 1)
    (g n c : Nat) (t : TypeId) (L ys : List UInt8) (v2 : Value) (m : Nat) (hn : L.length = n) (hd : a.eval d = .slice (some ⟨g, 0, none⟩) n c) (hs : a.eval s = v2) (hb : BB w t g L) (hr : Rd w 1 v2 m (bvs ys))
    (h : ∀ w', BB w' t g (ys.take n ++ L.drop (Nat.min m n)) → Only g w w' → wpList P ops Q rest (a.put o.dst (goInt (Nat.min m n))) w') : wpList P ops Q (o :: rest) a w := by
  refine wpList_plain hgd fun K hK => ?_
  have := step_copy_all (P := P) (ops := ops) (K := K) (Q := Q) (E := False) hgd d s dT sT ho e hu hsz g n c t L ys v2 m hn hd hs hb hr (fun w' h1 h2 => hK _ _ (h w' h1 h2))
  rwa [if_pos (by simp [Region.wanted, hgd])] at this

/-- The elements of a slice: each element x at its place, as R says. -/
def Sl {α : Type} (R : World → Nat → Nat → α → Prop) (size : Nat) (w : World) (v : Value) (l : List α) : Prop :=
  (l = [] ∧ ∃ a c, v = .slice a 0 c) ∨ ∃ b off c, v = .slice (some ⟨b, off, none⟩) l.length c ∧ l.length ≤ c ∧ c ≤ maxLen ∧ ∀ i x, l[i]? = some x → R w b (off + i * size) x

/-- What R says stays where nothing old turns. -/
def Stays {α : Type} (R : World → Nat → Nat → α → Prop) : Prop := ∀ w w' b o x, Below w.heap.size w w' → R w b o x → R w' b o x

theorem Sl.fresh {α : Type} {R : World → Nat → Nat → α → Prop} (hs : Stays R) {size : Nat} {w w' : World} {v : Value} {l : List α} (h : Sl R size w v l) (hb : Below w.heap.size w w') : Sl R size w' v l := by
  rcases h with h | ⟨b, off, c, h1, h2, h3, h4⟩
  · exact .inl h
  · exact .inr ⟨b, off, c, h1, h2, h3, fun i x hx => hs _ _ _ _ _ hb (h4 i x hx)⟩

theorem Sl.slice {α : Type} {R : World → Nat → Nat → α → Prop} {size : Nat} {w : World} {v : Value} {l : List α} (h : Sl R size w v l) : ∃ a c, v = .slice a l.length c := by
  rcases h with ⟨rfl, a, c, rfl⟩ | ⟨b, off, c, h1, _⟩
  · exact ⟨a, c, rfl⟩
  · exact ⟨_, c, h1⟩

/-- The cells cs lie at block b from o on. -/
def At (w : World) (b o : Nat) (cs : List Value) : Prop := ∀ j u, cs[j]? = some u → w.cell? ⟨b, o + j, none⟩ = some u

theorem add_at (b o j : Nat) : (⟨b, o, none⟩ : Addr).add j = ⟨b, o + j, none⟩ := by unfold Addr.add; split <;> simp_all

theorem At.load {w : World} {b o : Nat} {cs : List Value} (h : At w b o cs) : ∀ j u, cs[j]? = some u → w.cell? ((⟨b, o, none⟩ : Addr).add j) = some u := by
  intro j u hj; rw [add_at]; exact h j u hj

theorem At.cell0' {w : World} {b o : Nat} {u : Value} {cs : List Value} (h : At w b o (u :: cs)) : w.cell? ⟨b, o, none⟩ = some u := h 0 u rfl

theorem At.fresh {w w' : World} {b o : Nat} {cs : List Value} (h : At w b o cs) (hb : Below w.heap.size w w') : At w' b o cs := by
  intro j u hj
  have h0 := h j u hj
  rw [hb.cell (p := ⟨b, o + j, none⟩) (block_lt_of_cell h0)]
  exact h0

theorem At.below {w w' : World} {B b o : Nat} {cs : List Value} (h : At w b o cs) (hb : Below B w w') (hB : b < B) : At w' b o cs := by
  intro j u hj
  rw [hb.cell (p := ⟨b, o + j, none⟩) hB]
  exact h j u hj

theorem At.block {w : World} {b : Nat} {cs : List Value} {t : TypeId} {fz : Nat × Nat} (h : w.heap[b]? = some (.cells cs.toArray t fz)) : At w b 0 cs := by
  intro j u hj
  simp [World.cell?, h, hj]

end Go.Proofs.Ytbbbgpdhdlknjaa

/- A region that draws its order, walked in one order: what reads only is taken first (it yields the same in every world of which S holds), what is left comes up alone. -/
namespace Go.Proofs.Ytbbbgpdhdlknjaa
set_option linter.unusedVariables false
set_option linter.unusedSimpArgs false
open Go.RowKit

def noExit : Exit → Act → World → Prop := fun _ _ _ => False

/-- An operation that leaves a value where it runs to its end. -/
def valueOp : Op → Bool
  | .move _ | .assign _ | .pick .. | .load .. | .nilCheck _ | .binOp .. | .unOp .. | .convert .. | .slice .. | .fieldAddr .. | .field .. | .indexAddr .. | .index .. | .extract .. | .lookup .. => true
  | .call c => match c.callee with | .builtin .len => true | _ => false
  | _ => false

theorem run_value_only {P : Program} {s : Sem Value} {w w' : World} {n : Next} (h : (do let v ← s; pure (Next.value v) : Sem Next).run P w = .ok n w') : ∃ v, n = .value v := by
  rw [Sem.run_bind] at h
  cases hs : s.run P w with
  | ok v w1 =>
    rw [hs] at h
    simp only [Result.andThen_ok, Sem.run_pure] at h
    cases h
    exact ⟨v, rfl⟩
  | halt x w1 =>
    rw [hs] at h
    simp [Result.andThen] at h

theorem run_bind_ok {P : Program} {α β : Type} {s : Sem α} {f : α → Sem β} {w w' : World} {n : β} (h : (s >>= f).run P w = .ok n w') : ∃ x w1, (f x).run P w1 = .ok n w' := by
  rw [Sem.run_bind] at h
  cases hs : s.run P w with
  | ok v w1 =>
    rw [hs] at h
    exact ⟨v, w1, h⟩
  | halt x w1 =>
    rw [hs] at h
    simp [Result.andThen] at h

theorem run_pure_value {P : Program} {v : Value} {w w' : World} {n : Next} (h : (pure (Next.value v) : Sem Next).run P w = .ok n w') : ∃ v, n = .value v := by
  simp only [Sem.run_pure] at h; cases h; exact ⟨_, rfl⟩

theorem run_panic_not {P : Program} {w w' : World} {n : Next} (h : (runtimePanic .nilDeref : Sem Next).run P w = .ok n w') : False := by
  unfold runtimePanic at h
  obtain ⟨x, w1, h1⟩ := run_bind_ok h
  simp [goPanic] at h1

theorem valueOp_run {P : Program} {ρ : Operand → Value} {o : Oper} {w w' : World} {n : Next} (hv : valueOp o.op = true) (h : (execOp ρ o).run P w = .ok n w') : ∃ v, n = .value v := by
  obtain ⟨dst, op, type, pos, after, guard⟩ := o
  cases op <;> simp only [valueOp] at hv <;> first | (cases hv; done) | skip
  all_goals unfold execOp at h
  all_goals simp only at h
  all_goals first
    | exact run_value_only h
    | (simp only [Sem.run_pure] at h; cases h; exact ⟨_, rfl⟩)
    | skip
  · obtain ⟨x, w1, h1⟩ := run_bind_ok h
    exact run_pure_value h1
  · split at h
    · exact (run_panic_not h).elim
    · exact (run_panic_not h).elim
    · exact (run_panic_not h).elim
    · split at h
      · exact (run_panic_not h).elim
      · obtain ⟨x, w1, h1⟩ := run_bind_ok h
        obtain ⟨x, w1, h1⟩ := run_bind_ok h1
        split at h1
        · obtain ⟨x, w1, h1⟩ := run_bind_ok h1
          exact run_pure_value h1
        · exact run_pure_value h1
      · exact run_pure_value h
    · exact run_pure_value h
  · rename_i c
    obtain ⟨callee, args, tys⟩ := c
    cases callee <;> simp only at hv <;> first | (cases hv; done) | skip
    rename_i b
    cases b <;> simp only at hv <;> first | (cases hv; done) | skip
    simp only [resolve, Sem.run_bind, Sem.run_pure, Result.andThen_ok, invoke, builtin] at h
    cases hs : (Builtin.len_ tys type (Array.map ρ args)).run P w with
    | ok v w1 =>
      rw [hs] at h
      simp only [Result.andThen_ok] at h
      cases h
      exact ⟨v, rfl⟩
    | halt x w1 =>
      rw [hs] at h
      simp [Result.andThen] at h

section
variable {P : Program} {ops : Array Oper} {S : World → Prop} {K : Act → World → Prop}

/-- The post within a planned region: it ends well, or not at all. -/
def PQ (K : Act → World → Prop) : Exit → Act → World → Prop := Exit.then K noExit

theorem put_inj {a : Act} {d : Nat} {u v : Value} (h : a.put (some d) u = a.put (some d) v) (hd : d < a.tmps.size) : u = v := by
  have h1 : (a.put (some d) u).tmps[d]? = (a.put (some d) v).tmps[d]? := by rw [h]
  simpa [Act.put, hd] using h1

/-- Number i reads only: it yields the same in every world of which S holds. -/
theorem pl_light {i fuel : Nat} {o : Oper} {listed : Array Bool} {a A : Act} {w : World} (d : Nat) (hi : ops[i]? = some o) (hv : valueOp o.op = true) (hdst : o.dst = some d) (hs : Region.noSelect ops = true)
    (hf : Region.free .any ops listed i = true) (hr : (Region.ready .any ops listed).contains i = true) (hd : d < a.tmps.size) (hS : S w)
    (hrun : ∀ w', S w' → wpList P ops (Exit.then (fun a' w'' => w'' = w' ∧ a' = A) noExit) [o] a w')
    (h : wpAnyH P .any ops (PQ K) S fuel (listed.setIfInBounds i true) A w) : wpAnyH P .any ops (PQ K) S (fuel + 1) listed a w := by
  have key : ∀ w', S w' → (Region.wanted o (yielded ops a.tmps) = true ∧ ∃ v, (execOp a.eval o).run P w' = .ok (.value v) w' ∧ a.put o.dst v = A) ∨ (Region.wanted o (yielded ops a.tmps) = false ∧ a.put o.dst undef = A) := by
    intro w' hS'
    have h1 := hrun w' hS'
    unfold wpList at h1
    cases hw : Region.wanted o (yielded ops a.tmps) with
    | true =>
      rw [hw, if_pos rfl] at h1
      rcases h1 with h1 | ⟨_, a0, w0, hf⟩
      · left
        refine ⟨rfl, ?_⟩
        unfold Oper.wp at h1
        cases hx : (execOp a.eval o).run P w' with
        | ok n w1 =>
          obtain ⟨v, rfl⟩ := valueOp_run hv hx
          rw [hx, Oper.upon_value] at h1
          obtain ⟨rfl, h2⟩ := (h1 : w1 = w' ∧ _)
          exact ⟨v, rfl, h2⟩
        | halt x w1 =>
          rw [hx] at h1
          cases x <;> exact (h1 : False).elim
      · exact (hf : False).elim
    | false =>
      rw [hw] at h1
      exact .inr ⟨rfl, (h1 : w' = w' ∧ _).2⟩
  have hap : ∃ v, YieldsIf P ops S o v a ∧ a.put o.dst v = A := by
    rcases key w hS with ⟨hw, v, hv1, hv2⟩ | ⟨hw, h2⟩
    · refine ⟨v, .inl ⟨hw, fun w' hS' => ?_⟩, hv2⟩
      rcases key w' hS' with ⟨_, v', h3, h4⟩ | ⟨hw', _⟩
      · rw [h3]
        rw [← hv2, hdst] at h4
        rw [put_inj h4 hd]
      · rw [hw] at hw'; cases hw'
    · exact ⟨undef, .inr ⟨hw, rfl⟩, h2⟩
  obtain ⟨v, hy, rfl⟩ := hap
  exact wpAnyH_take hi hs hf hr (fun _ _ _ h => h) hy hS h

theorem pl_take {i fuel : Nat} {o : Oper} {listed : Array Bool} {a : Act} {w : World} (d : Nat) (hi : ops[i]? = some o) (hv : valueOp o.op = true) (hdst : o.dst = some d) (hs : Region.noSelect ops = true)
    (hf : Region.free .any ops listed i = true) (hr : (Region.ready .any ops listed).contains i = true) (hd : d < a.tmps.size) (hS : S w)
    (h : ∃ A, (∀ w', S w' → wpList P ops (Exit.then (fun a' w'' => w'' = w' ∧ a' = A) noExit) [o] a w') ∧ wpAnyH P .any ops (PQ K) S fuel (listed.setIfInBounds i true) A w) : wpAnyH P .any ops (PQ K) S (fuel + 1) listed a w := by
  obtain ⟨A, h1, h2⟩ := h
  exact pl_light d hi hv hdst hs hf hr hd hS h1 h2

/-- Number i is not wanted: its guard says so. -/
theorem pl_skip {i fuel : Nat} {o : Oper} {listed : Array Bool} {a : Act} {w : World} (hi : ops[i]? = some o) (hw : Region.wanted o (yielded ops a.tmps) = false) (hs : Region.noSelect ops = true)
    (hf : Region.free .any ops listed i = true) (hr : (Region.ready .any ops listed).contains i = true) (hS : S w)
    (h : ∃ A, a.put o.dst undef = A ∧ wpAnyH P .any ops (PQ K) S fuel (listed.setIfInBounds i true) A w) : wpAnyH P .any ops (PQ K) S (fuel + 1) listed a w := by
  obtain ⟨A, rfl, h⟩ := h
  exact wpAnyH_take hi hs hf hr (fun _ _ _ h => h) (.inr ⟨hw, rfl⟩) hS h

/-- Number i alone may come up. -/
theorem pl_heavy {i fuel : Nat} {o : Oper} {listed : Array Bool} {a : Act} {w : World} (hi : ops[i]? = some o) (hr : Region.ready .any ops listed = [i])
    (h : wpList P ops (Exit.then (fun a' w' => S w' ∧ wpAnyH P .any ops (PQ K) S fuel (listed.setIfInBounds i true) a' w') noExit) [o] a w) : wpAnyH P .any ops (PQ K) S (fuel + 1) listed a w := by
  refine wpAnyH_all hr (by simp) ?_
  intro j hj
  simp only [List.mem_singleton] at hj
  subst hj
  unfold wpOp
  rw [hi]
  simp only
  unfold wpList at h
  split
  · rename_i hw
    rw [if_pos hw] at h
    rcases h with h | ⟨hk, a0, w0, hf⟩
    · left
      unfold Oper.wp at h ⊢
      generalize (execOp a.eval o).run P w = r at h ⊢
      cases r with
      | ok n w1 =>
        cases n <;> simp only [Oper.upon] at h ⊢ <;> first
          | exact h
          | exact Calls.mono h (fun e w2 he => by
              cases e with
              | returned v => exact he
              | panicked c => exact (he : False).elim
              | outgrown => obtain ⟨_, _, hf⟩ := he; exact (hf : False).elim)
          | exact Rows.mono h (fun _ _ he => he)
      | halt x w1 =>
        cases x <;> simp only [Oper.upon] at h ⊢ <;> exact h
    · exact (hf : False).elim
  · rename_i hw
    rw [if_neg hw] at h
    exact h

theorem pl_done {fuel : Nat} {listed : Array Bool} {a : Act} {w : World} (hr : Region.ready .any ops listed = []) (h : K a w) : wpAnyH P .any ops (PQ K) S fuel listed a w :=
  wpAnyH_done hr h fuel

/-- The beginning: what is known of the world behind the draw is S. -/
theorem pl_start {id : Nat} {a : Act} {w : World} {Q : Exit → Act → World → Prop} (n : Nat) (hn : ops.size = n) (S : World → Prop) (hm : P.follows .mixedOrders = true)
    (h : wpAnyH P .any ops (PQ (Q .normal)) S n (Array.replicate n false) a w.drew) : (Code.region id ops true).wp P Q a w := by
  subst hn
  refine Code.wp_mono ?_ (wp_region_held (Q := PQ (Q .normal)) hm h)
  intro e a w q
  cases e <;> first | exact q | exact (q : False).elim

end
end Go.Proofs.Ytbbbgpdhdlknjaa

/- A region that draws its order, walked in one order, where the last operations need not keep what the reading ones lean on. -/
namespace Go.Proofs.Ytbbbgpdhdlknjaa
set_option linter.unusedVariables false
set_option linter.unusedSimpArgs false
open Go.RowKit

section
variable {P : Program} {ops : Array Oper} {S : World → Prop} {F : Nat → Bool} {K : Act → World → Prop}

/-- None of the last has come up. -/
def noFin (F : Nat → Bool) (l : Array Bool) : Prop := ∀ j, F j = true → l.getD j false = false

/-- Any order; S stands as long as none of the last has come up. -/
def wpAnyF (P : Program) (ops : Array Oper) (Q : Exit → Act → World → Prop) (S : World → Prop) (F : Nat → Bool) : Nat → Array Bool → Act → World → Prop
  | 0, l, a, w => Region.ready .any ops l = [] ∧ Q .normal a w
  | n + 1, l, a, w => (Region.ready .any ops l = [] → Q .normal a w) ∧ ∀ i ∈ Region.ready .any ops l, wpOp P ops Q i (fun a' w' => (noFin F (l.setIfInBounds i true) → S w') ∧ wpAnyF P ops Q S F n (l.setIfInBounds i true) a' w') a w

theorem wpAny_of_F {Q : Exit → Act → World → Prop} : ∀ (n : Nat) (l : Array Bool) (a : Act) (w : World), wpAnyF P ops Q S F n l a w → wpAny P .any ops Q n l a w
  | 0, _, _, _, h => h
  | n + 1, _, _, _, h => ⟨h.1, fun i hi => wpOp_mono (fun a' w' h' => wpAny_of_F n _ a' w' h'.2) (h.2 i hi)⟩

theorem noFin_set {l : Array Bool} {i : Nat} (h : noFin F l) (hi : F i = false) : noFin F (l.setIfInBounds i true) := fun j hj => by
  have hne : i ≠ j := fun e => by subst e; rw [hi] at hj; cases hj
  rw [getD_set_ne false hne]
  exact h j hj

theorem wpAnyF_first {S0 : World → Prop} {inv : Array Bool → Prop} {Q : Exit → Act → World → Prop} {i : Nat} {oi : Oper} {v : Value} (hi : ops[i]? = some oi) (hsel : ∀ (j : Nat) (o : Oper) cs b, ops[j]? = some o → o.op ≠ .select cs b)
    (hQ : ∀ c a w, Q (.panic c) (a.put oi.dst v) w → Q (.panic c) a w) (hFi : F i = false)
    (hinv : ∀ (l : Array Bool) (j : Nat) (o : Oper), inv l → ops[j]? = some o → (∀ e ∈ o.after, Region.binds .any e = true → e.on ≠ i) → inv (l.setIfInBounds j true))
    (hS0 : ∀ (l : Array Bool) (w' : World), inv l → (noFin F l → S w') → S0 w') :
    ∀ (n : Nat) (l : Array Bool) (a : Act) (w : World),
      (∀ j oj, ops[j]? = some oj → j ≠ i → l.getD j true = false → (∀ e ∈ oj.after, Region.binds .any e = true → e.on ≠ i) → oi.apart ops oj = true) →
      i ∈ Region.ready .any ops l → YieldsIf P ops S0 oi v a → inv l → S0 w → (noFin F l → S w) →
      wpAnyF P ops Q S F n (l.setIfInBounds i true) (a.put oi.dst v) w → wpAnyF P ops Q S F (n + 1) l a w := by
  have hback : ∀ (l : Array Bool), noFin F (l.setIfInBounds i true) → noFin F l := fun l h j hj => by
    have hne : i ≠ j := fun e => by subst e; rw [hFi] at hj; cases hj
    have := h j hj
    rwa [getD_set_ne false hne] at this
  intro n
  induction n with
  | zero =>
    intro l a w _ hr hy hl hS hS1 H
    refine ⟨fun h => (by rw [h] at hr; cases hr), fun j hj => ?_⟩
    rcases Nat.decEq j i with hji | hji
    · have := ready_mono hj hji
      rw [H.1] at this
      cases this
    · subst hji
      exact hy.wpOp hi hS ⟨fun h => hS1 (hback _ h), H⟩
  | succ n ih =>
    intro l a w hfree hr hy hl hS hS1 H
    have hun : l.getD i false = false := by
      have h0 := (mem_ready.1 hr).1
      rcases Nat.lt_or_ge i l.size with h' | h'
      · simp [h'] at h0 ⊢; exact h0
      · simp [Array.getElem?_eq_none h']
    refine ⟨fun h => (by rw [h] at hr; cases hr), fun j hj => ?_⟩
    rcases Nat.decEq j i with hji | hji
    · obtain ⟨hjun, oj, hoj, hall⟩ := mem_ready.1 hj
      have hnot : ∀ e ∈ oj.after, Region.binds .any e = true → e.on ≠ i := fun e he hb heq => by
        have h1 := hall e he hb
        rw [heq, hun] at h1
        cases h1
      have h2 := wpOp_putIf hoj (hfree j oj hoj hji hjun hnot) (fun cs b => hsel i oi cs b hi) (fun cs b => hsel j oj cs b hoj) hQ hy (H.2 j (ready_mono hj hji))
      have hfree' : ∀ k ok, ops[k]? = some ok → k ≠ i → (l.setIfInBounds j true).getD k true = false → (∀ e ∈ ok.after, Region.binds .any e = true → e.on ≠ i) → oi.apart ops ok = true := fun k ok hk hki hku hno => by
        refine hfree k ok hk hki ?_ hno
        rcases Nat.decEq j k with hjk | hjk
        · rwa [getD_set_ne true hjk] at hku
        · subst hjk; exact hjun
      have hlj := hinv l j oj hl hoj hnot
      have hto : ∀ w' : World, (noFin F ((l.setIfInBounds i true).setIfInBounds j true) → S w') → noFin F (l.setIfInBounds j true) → S w' := fun w' h h' => h (by
        rw [Array.setIfInBounds_comm _ _ (Ne.symm hji)]
        exact noFin_set h' hFi)
      refine wpOp_mono (fun a' w' h3 => ⟨hto w' h3.2.1, ih (l.setIfInBounds j true) a' w' hfree' (ready_mono hr (Ne.symm hji)) h3.1 hlj (hS0 _ w' hlj (hto w' h3.2.1)) (hto w' h3.2.1) ?_⟩) h2
      rw [Array.setIfInBounds_comm _ _ hji]
      exact h3.2.2
    · subst hji
      exact hy.wpOp hi hS ⟨fun h => hS1 (hback _ h), H⟩

/-- Each of the last waits for number i. -/
def lastWait (ops : Array Oper) (F : Nat → Bool) (l : Array Bool) (i : Nat) : Bool :=
  !F i && ((List.range ops.size).all fun j => !(F j && l.getD j false)) && (List.range ops.size).all fun j => !F j || (match ops[j]? with | some o => o.after.any fun e => Region.binds .any e && e.on == i | none => true)

theorem lastWait_spec {i : Nat} {l : Array Bool} (hl : l.size = ops.size) (h : lastWait ops F l i = true) : F i = false ∧ noFin F l ∧ ∀ (j : Nat) (o : Oper), ops[j]? = some o → F j = true → ∃ e ∈ o.after, Region.binds .any e = true ∧ e.on = i := by
  unfold lastWait at h
  simp only [Bool.and_eq_true, Bool.not_eq_true', List.all_eq_true, List.mem_range] at h
  refine ⟨h.1.1, fun j hj => ?_, fun j o ho hj => ?_⟩
  · rcases Nat.lt_or_ge j ops.size with hlt | hge
    · have h1 := h.1.2 j hlt
      rw [hj, Bool.true_and] at h1
      exact h1
    · simp [Array.getElem?_eq_none (by omega : l.size ≤ j)]
  · have hlt : j < ops.size := (Array.getElem?_eq_some_iff.1 ho).1
    have h1 := h.2 j hlt
    rw [hj, ho] at h1
    simp only [Bool.not_true, Bool.false_or, Array.any_eq_true] at h1
    obtain ⟨k, hk, he⟩ := h1
    simp only [Bool.and_eq_true, beq_iff_eq] at he
    exact ⟨_, Array.getElem_mem hk, he.1, he.2⟩

theorem pf_start {id : Nat} {a : Act} {w : World} {Q : Exit → Act → World → Prop} (n : Nat) (hn : ops.size = n) (S : World → Prop) (F : Nat → Bool) (hm : P.follows .mixedOrders = true)
    (h : wpAnyF P ops (PQ (Q .normal)) S F n (Array.replicate n false) a w.drew) : (Code.region id ops true).wp P Q a w := by
  subst hn
  refine Code.wp_mono ?_ (wp_region_any (Q := PQ (Q .normal)) hm (wpAny_of_F _ _ _ _ h))
  intro e a w q
  cases e <;> first | exact q | exact (q : False).elim

theorem pf_take {i fuel : Nat} {o : Oper} {listed : Array Bool} {a : Act} {w : World} (d : Nat) (hi : ops[i]? = some o) (hv : valueOp o.op = true) (hdst : o.dst = some d) (hs : Region.noSelect ops = true)
    (hf : Region.free .any ops listed i = true) (hr : (Region.ready .any ops listed).contains i = true) (hl : lastWait ops F listed i = true) (hsz : listed.size = ops.size) (hd : d < a.tmps.size) (hS : S w)
    (h : ∃ A, (∀ w', S w' → wpList P ops (Exit.then (fun a' w'' => w'' = w' ∧ a' = A) noExit) [o] a w') ∧ wpAnyF P ops (PQ K) S F fuel (listed.setIfInBounds i true) A w) : wpAnyF P ops (PQ K) S F (fuel + 1) listed a w := by
  obtain ⟨A, hrun, h⟩ := h
  have key : ∀ w', S w' → (Region.wanted o (yielded ops a.tmps) = true ∧ ∃ v, (execOp a.eval o).run P w' = .ok (.value v) w' ∧ a.put o.dst v = A) ∨ (Region.wanted o (yielded ops a.tmps) = false ∧ a.put o.dst undef = A) := by
    intro w' hS'
    have h1 := hrun w' hS'
    unfold wpList at h1
    cases hw : Region.wanted o (yielded ops a.tmps) with
    | true =>
      rw [hw, if_pos rfl] at h1
      rcases h1 with h1 | ⟨_, a0, w0, hf⟩
      · left
        refine ⟨rfl, ?_⟩
        unfold Oper.wp at h1
        cases hx : (execOp a.eval o).run P w' with
        | ok n w1 =>
          obtain ⟨v, rfl⟩ := valueOp_run hv hx
          rw [hx, Oper.upon_value] at h1
          obtain ⟨rfl, h2⟩ := (h1 : w1 = w' ∧ _)
          exact ⟨v, rfl, h2⟩
        | halt x w1 =>
          rw [hx] at h1
          cases x <;> exact (h1 : False).elim
      · exact (hf : False).elim
    | false =>
      rw [hw] at h1
      exact .inr ⟨rfl, (h1 : w' = w' ∧ _).2⟩
  have hap : ∃ v, YieldsIf P ops S o v a ∧ a.put o.dst v = A := by
    rcases key w hS with ⟨hw, v, hv1, hv2⟩ | ⟨hw, h2⟩
    · refine ⟨v, .inl ⟨hw, fun w' hS' => ?_⟩, hv2⟩
      rcases key w' hS' with ⟨_, v', h3, h4⟩ | ⟨hw', _⟩
      · rw [h3]
        rw [← hv2, hdst] at h4
        rw [put_inj h4 hd]
      · rw [hw] at hw'; cases hw'
    · exact ⟨undef, .inr ⟨hw, rfl⟩, h2⟩
  obtain ⟨v, hy, rfl⟩ := hap
  obtain ⟨h1, h2, h3⟩ := lastWait_spec hsz hl
  refine wpAnyF_first (S0 := S) (inv := noFin F) hi (Region.noSelect_spec hs) (fun _ _ _ h => h) h1 (fun l j o' hinv hj hn => ?_) (fun l w' hinv h => h hinv) fuel listed a w (Region.free_spec hi hf) (by simpa using hr) hy h2 hS (fun _ => hS) h
  refine noFin_set hinv ?_
  cases hc : F j with
  | false => rfl
  | true =>
    obtain ⟨e, he, hb, heq⟩ := h3 j o' hj hc
    exact absurd heq (hn e he hb)

/-- Number i yields the same in every world. -/
theorem pf_free {i fuel : Nat} {o : Oper} {listed : Array Bool} {a : Act} {w : World} (d : Nat) (hi : ops[i]? = some o) (hv : valueOp o.op = true) (hdst : o.dst = some d) (hs : Region.noSelect ops = true)
    (hf : Region.free .any ops listed i = true) (hr : (Region.ready .any ops listed).contains i = true) (hFi : F i = false) (hd : d < a.tmps.size) (hS : noFin F listed → S w)
    (h : ∃ A, (∀ w', wpList P ops (Exit.then (fun a' w'' => w'' = w' ∧ a' = A) noExit) [o] a w') ∧ wpAnyF P ops (PQ K) S F fuel (listed.setIfInBounds i true) A w) : wpAnyF P ops (PQ K) S F (fuel + 1) listed a w := by
  obtain ⟨A, hrun, h⟩ := h
  have key : ∀ w', (Region.wanted o (yielded ops a.tmps) = true ∧ ∃ v, (execOp a.eval o).run P w' = .ok (.value v) w' ∧ a.put o.dst v = A) ∨ (Region.wanted o (yielded ops a.tmps) = false ∧ a.put o.dst undef = A) := by
    intro w'
    have h1 := hrun w'
    unfold wpList at h1
    cases hw : Region.wanted o (yielded ops a.tmps) with
    | true =>
      rw [hw, if_pos rfl] at h1
      rcases h1 with h1 | ⟨_, a0, w0, hf⟩
      · left
        refine ⟨rfl, ?_⟩
        unfold Oper.wp at h1
        cases hx : (execOp a.eval o).run P w' with
        | ok n w1 =>
          obtain ⟨v, rfl⟩ := valueOp_run hv hx
          rw [hx, Oper.upon_value] at h1
          obtain ⟨rfl, h2⟩ := (h1 : w1 = w' ∧ _)
          exact ⟨v, rfl, h2⟩
        | halt x w1 =>
          rw [hx] at h1
          cases x <;> exact (h1 : False).elim
      · exact (hf : False).elim
    | false =>
      rw [hw] at h1
      exact .inr ⟨rfl, (h1 : w' = w' ∧ _).2⟩
  have hap : ∃ v, YieldsIf P ops (fun _ => True) o v a ∧ a.put o.dst v = A := by
    rcases key w with ⟨hw, v, hv1, hv2⟩ | ⟨hw, h2⟩
    · refine ⟨v, .inl ⟨hw, fun w' _ => ?_⟩, hv2⟩
      rcases key w' with ⟨_, v', h3, h4⟩ | ⟨hw', _⟩
      · rw [h3]
        rw [← hv2, hdst] at h4
        rw [put_inj h4 hd]
      · rw [hw] at hw'; cases hw'
    · exact ⟨undef, .inr ⟨hw, rfl⟩, h2⟩
  obtain ⟨v, hy, rfl⟩ := hap
  exact wpAnyF_first (S0 := fun _ => True) (inv := fun _ => True) hi (Region.noSelect_spec hs) (fun _ _ _ h => h) hFi (fun _ _ _ _ _ _ => trivial) (fun _ _ _ _ => trivial) fuel listed a w (Region.free_spec hi hf) (by simpa using hr) hy trivial trivial hS h

/-- Number i is not wanted: its guard says so. -/
theorem pf_skip {i fuel : Nat} {o : Oper} {listed : Array Bool} {a : Act} {w : World} (hi : ops[i]? = some o) (hw : Region.wanted o (yielded ops a.tmps) = false) (hs : Region.noSelect ops = true)
    (hf : Region.free .any ops listed i = true) (hr : (Region.ready .any ops listed).contains i = true) (hFi : F i = false) (hS : noFin F listed → S w)
    (h : ∃ A, a.put o.dst undef = A ∧ wpAnyF P ops (PQ K) S F fuel (listed.setIfInBounds i true) A w) : wpAnyF P ops (PQ K) S F (fuel + 1) listed a w := by
  obtain ⟨A, rfl, h⟩ := h
  exact wpAnyF_first (S0 := fun _ => True) (inv := fun _ => True) hi (Region.noSelect_spec hs) (fun _ _ _ h => h) hFi (fun _ _ _ _ _ _ => trivial) (fun _ _ _ _ => trivial) fuel listed a w (Region.free_spec hi hf) (by simpa using hr) (.inr ⟨hw, rfl⟩) trivial trivial hS h

theorem pf_op {i : Nat} {o : Oper} {a : Act} {w : World} {X : Act → World → Prop} (hi : ops[i]? = some o) (h : wpList P ops (Exit.then X noExit) [o] a w) : wpOp P ops (PQ K) i X a w := by
  unfold wpOp
  rw [hi]
  simp only
  unfold wpList at h
  split
  · rename_i hw
    rw [if_pos hw] at h
    rcases h with h | ⟨hk, a0, w0, hf⟩
    · left
      unfold Oper.wp at h ⊢
      generalize (execOp a.eval o).run P w = r at h ⊢
      cases r with
      | ok n w1 =>
        cases n <;> simp only [Oper.upon] at h ⊢ <;> first
          | exact h
          | exact Calls.mono h (fun e w2 he => by
              cases e with
              | returned v => exact he
              | panicked c => exact (he : False).elim
              | outgrown => obtain ⟨_, _, hf⟩ := he; exact (hf : False).elim)
          | exact Rows.mono h (fun _ _ he => he)
      | halt x w1 =>
        cases x <;> simp only [Oper.upon] at h ⊢ <;> exact h
    · exact (hf : False).elim
  · rename_i hw
    rw [if_neg hw] at h
    exact h

/-- Number i alone may come up; S stands behind it. -/
theorem pf_heavy {i fuel : Nat} {o : Oper} {listed : Array Bool} {a : Act} {w : World} (hi : ops[i]? = some o) (hr : Region.ready .any ops listed = [i])
    (h : wpList P ops (Exit.then (fun a' w' => S w' ∧ wpAnyF P ops (PQ K) S F fuel (listed.setIfInBounds i true) a' w') noExit) [o] a w) : wpAnyF P ops (PQ K) S F (fuel + 1) listed a w := by
  refine ⟨fun h0 => absurd (hr ▸ h0) (by simp), fun j hj => ?_⟩
  rw [hr, List.mem_singleton] at hj
  subst hj
  exact wpOp_mono (fun a' w' h' => ⟨fun _ => h'.1, h'.2⟩) (pf_op hi h)

/-- One of the last has come up. -/
def finB (F : Nat → Bool) (l : Array Bool) : Bool := (List.range l.size).any fun j => F j && l.getD j false

theorem finB_spec {l : Array Bool} (h : finB F l = true) : ¬ noFin F l := fun hn => by
  unfold finB at h
  simp only [List.any_eq_true, List.mem_range, Bool.and_eq_true] at h
  obtain ⟨j, _, h1, h2⟩ := h
  rw [hn j h1] at h2
  cases h2

/-- Number i alone may come up, one of the last, or behind one. -/
theorem pf_last {i fuel : Nat} {o : Oper} {listed : Array Bool} {a : Act} {w : World} (hi : ops[i]? = some o) (hr : Region.ready .any ops listed = [i]) (hF : finB F (listed.setIfInBounds i true) = true)
    (h : wpList P ops (Exit.then (fun a' w' => wpAnyF P ops (PQ K) S F fuel (listed.setIfInBounds i true) a' w') noExit) [o] a w) : wpAnyF P ops (PQ K) S F (fuel + 1) listed a w := by
  refine ⟨fun h0 => absurd (hr ▸ h0) (by simp), fun j hj => ?_⟩
  rw [hr, List.mem_singleton] at hj
  subst hj
  exact wpOp_mono (fun a' w' h' => ⟨fun hc => absurd hc (finB_spec hF), h'⟩) (pf_op hi h)

theorem pf_done {fuel : Nat} {listed : Array Bool} {a : Act} {w : World} (hr : Region.ready .any ops listed = []) (h : K a w) : wpAnyF P ops (PQ K) S F fuel listed a w := by
  cases fuel with
  | zero => exact ⟨hr, h⟩
  | succ n => exact ⟨fun _ => h, fun i hi => by rw [hr] at hi; exact absurd hi (by simp)⟩

end
end Go.Proofs.Ytbbbgpdhdlknjaa

/- A planned region in which max and min stand. -/
namespace Go.Proofs.Ytbbbgpdhdlknjaa
set_option linter.unusedVariables false
set_option linter.unusedSimpArgs false
open Go.RowKit

def valueOpM : Op → Bool
  | .call c => match c.callee with | .builtin .max => true | .builtin .min => true | _ => false
  | _ => false

theorem valueOpM_run {P : Program} {ρ : Operand → Value} {o : Oper} {w w' : World} {n : Next} (hv : valueOpM o.op = true) (h : (execOp ρ o).run P w = .ok n w') : ∃ v, n = .value v := by
  obtain ⟨dst, op, type, pos, after, guard⟩ := o
  cases op <;> simp only [valueOpM] at hv <;> first | (cases hv; done) | skip
  rename_i c
  unfold execOp at h
  simp only at h
  obtain ⟨callee, args, tys⟩ := c
  cases callee <;> simp only at hv <;> first | (cases hv; done) | skip
  rename_i b
  cases b <;> simp only at hv <;> first | (cases hv; done) | skip
  all_goals
    simp only [resolve, Sem.run_bind, Sem.run_pure, Result.andThen_ok, invoke, builtin] at h
  · cases hs : (Builtin.max_ tys type (Array.map ρ args)).run P w with
    | ok v w1 =>
      rw [hs] at h
      simp only [Result.andThen_ok] at h
      cases h
      exact ⟨v, rfl⟩
    | halt x w1 =>
      rw [hs] at h
      simp [Result.andThen] at h
  · cases hs : (Builtin.min_ tys type (Array.map ρ args)).run P w with
    | ok v w1 =>
      rw [hs] at h
      simp only [Result.andThen_ok] at h
      cases h
      exact ⟨v, rfl⟩
    | halt x w1 =>
      rw [hs] at h
      simp [Result.andThen] at h

section
variable {P : Program} {ops : Array Oper} {S : World → Prop} {K : Act → World → Prop}

/-- Number i reads only: it yields the same in every world of which S holds. -/
theorem pl_lightM {i fuel : Nat} {o : Oper} {listed : Array Bool} {a A : Act} {w : World} (d : Nat) (hi : ops[i]? = some o) (hv : valueOpM o.op = true) (hdst : o.dst = some d) (hs : Region.noSelect ops = true)
    (hf : Region.free .any ops listed i = true) (hr : (Region.ready .any ops listed).contains i = true) (hd : d < a.tmps.size) (hS : S w)
    (hrun : ∀ w', S w' → wpList P ops (Exit.then (fun a' w'' => w'' = w' ∧ a' = A) noExit) [o] a w')
    (h : wpAnyH P .any ops (PQ K) S fuel (listed.setIfInBounds i true) A w) : wpAnyH P .any ops (PQ K) S (fuel + 1) listed a w := by
  have key : ∀ w', S w' → (Region.wanted o (yielded ops a.tmps) = true ∧ ∃ v, (execOp a.eval o).run P w' = .ok (.value v) w' ∧ a.put o.dst v = A) ∨ (Region.wanted o (yielded ops a.tmps) = false ∧ a.put o.dst undef = A) := by
    intro w' hS'
    have h1 := hrun w' hS'
    unfold wpList at h1
    cases hw : Region.wanted o (yielded ops a.tmps) with
    | true =>
      rw [hw, if_pos rfl] at h1
      rcases h1 with h1 | ⟨_, a0, w0, hf⟩
      · left
        refine ⟨rfl, ?_⟩
        unfold Oper.wp at h1
        cases hx : (execOp a.eval o).run P w' with
        | ok n w1 =>
          obtain ⟨v, rfl⟩ := valueOpM_run hv hx
          rw [hx, Oper.upon_value] at h1
          obtain ⟨rfl, h2⟩ := (h1 : w1 = w' ∧ _)
          exact ⟨v, rfl, h2⟩
        | halt x w1 =>
          rw [hx] at h1
          cases x <;> exact (h1 : False).elim
      · exact (hf : False).elim
    | false =>
      rw [hw] at h1
      exact .inr ⟨rfl, (h1 : w' = w' ∧ _).2⟩
  have hap : ∃ v, YieldsIf P ops S o v a ∧ a.put o.dst v = A := by
    rcases key w hS with ⟨hw, v, hv1, hv2⟩ | ⟨hw, h2⟩
    · refine ⟨v, .inl ⟨hw, fun w' hS' => ?_⟩, hv2⟩
      rcases key w' hS' with ⟨_, v', h3, h4⟩ | ⟨hw', _⟩
      · rw [h3]
        rw [← hv2, hdst] at h4
        rw [put_inj h4 hd]
      · rw [hw] at hw'; cases hw'
    · exact ⟨undef, .inr ⟨hw, rfl⟩, h2⟩
  obtain ⟨v, hy, rfl⟩ := hap
  exact wpAnyH_take hi hs hf hr (fun _ _ _ h => h) hy hS h

theorem pl_takeM {i fuel : Nat} {o : Oper} {listed : Array Bool} {a : Act} {w : World} (d : Nat) (hi : ops[i]? = some o) (hv : valueOpM o.op = true) (hdst : o.dst = some d) (hs : Region.noSelect ops = true)
    (hf : Region.free .any ops listed i = true) (hr : (Region.ready .any ops listed).contains i = true) (hd : d < a.tmps.size) (hS : S w)
    (h : ∃ A, (∀ w', S w' → wpList P ops (Exit.then (fun a' w'' => w'' = w' ∧ a' = A) noExit) [o] a w') ∧ wpAnyH P .any ops (PQ K) S fuel (listed.setIfInBounds i true) A w) : wpAnyH P .any ops (PQ K) S (fuel + 1) listed a w := by
  obtain ⟨A, h1, h2⟩ := h
  exact pl_lightM d hi hv hdst hs hf hr hd hS h1 h2

end
end Go.Proofs.Ytbbbgpdhdlknjaa

/- Regions in which two or three operations may come up; the rest shown once for all orders. -/
namespace Go.Proofs.Ytbbbgpdhdlknjaa
set_option linter.unusedVariables false
set_option linter.unusedSimpArgs false
open Go.RowKit

/-- Either of two may come up. -/
theorem ord_two {P : Program} {ops : Array Oper} {S : World → Prop} {K : Act → World → Prop} {i j fuel : Nat} {oi oj : Oper} {listed : Array Bool} {a : Act} {w : World} (hi : ops[i]? = some oi) (hj : ops[j]? = some oj) (hr : Region.ready .any ops listed = [i, j])
    (h1 : wpList P ops (Exit.then (fun a' w' => S w' ∧ wpAnyH P .any ops (PQ K) S fuel (listed.setIfInBounds i true) a' w') noExit) [oi] a w)
    (h2 : wpList P ops (Exit.then (fun a' w' => S w' ∧ wpAnyH P .any ops (PQ K) S fuel (listed.setIfInBounds j true) a' w') noExit) [oj] a w) : wpAnyH P .any ops (PQ K) S (fuel + 1) listed a w := by
  refine wpAnyH_all hr (by simp) ?_
  intro k hk
  simp only [List.mem_cons, List.not_mem_nil, or_false] at hk
  rcases hk with rfl | rfl
  · exact pf_op hi h1
  · exact pf_op hj h2

/-- Each of three may come up. -/
theorem ord_three {P : Program} {ops : Array Oper} {S : World → Prop} {K : Act → World → Prop} {i j k fuel : Nat} {oi oj ok : Oper} {listed : Array Bool} {a : Act} {w : World} (hi : ops[i]? = some oi) (hj : ops[j]? = some oj) (hk : ops[k]? = some ok) (hr : Region.ready .any ops listed = [i, j, k])
    (h1 : wpList P ops (Exit.then (fun a' w' => S w' ∧ wpAnyH P .any ops (PQ K) S fuel (listed.setIfInBounds i true) a' w') noExit) [oi] a w)
    (h2 : wpList P ops (Exit.then (fun a' w' => S w' ∧ wpAnyH P .any ops (PQ K) S fuel (listed.setIfInBounds j true) a' w') noExit) [oj] a w)
    (h3 : wpList P ops (Exit.then (fun a' w' => S w' ∧ wpAnyH P .any ops (PQ K) S fuel (listed.setIfInBounds k true) a' w') noExit) [ok] a w) : wpAnyH P .any ops (PQ K) S (fuel + 1) listed a w := by
  refine wpAnyH_all hr (by simp) ?_
  intro q hq
  simp only [List.mem_cons, List.not_mem_nil, or_false] at hq
  rcases hq with rfl | rfl | rfl
  · exact pf_op hi h1
  · exact pf_op hj h2
  · exact pf_op hk h3

theorem ord_share2 {α β : Type} {F : α → β → Prop} {G : Prop} (P : α → β → Prop) (h1 : (∀ x y, F x y → P x y) → G) (h2 : ∀ x y, F x y → P x y) : G := h1 h2
theorem ord_share3 {α β γ : Type} {F : α → β → γ → Prop} {G : Prop} (P : α → β → γ → Prop) (h1 : (∀ x y z, F x y z → P x y z) → G) (h2 : ∀ x y z, F x y z → P x y z) : G := h1 h2
theorem ord_share4 {α β γ δ : Type} {F : α → β → γ → δ → Prop} {G : Prop} (P : α → β → γ → δ → Prop) (h1 : (∀ x y z t, F x y z t → P x y z t) → G) (h2 : ∀ x y z t, F x y z t → P x y z t) : G := h1 h2
theorem ord_share5 {α β γ δ ε : Type} {F : α → β → γ → δ → ε → Prop} {G : Prop} (P : α → β → γ → δ → ε → Prop) (h1 : (∀ x y z t u, F x y z t u → P x y z t u) → G) (h2 : ∀ x y z t u, F x y z t u → P x y z t u) : G := h1 h2
theorem ord_share6 {α β γ δ ε ζ : Type} {F : α → β → γ → δ → ε → ζ → Prop} {G : Prop} (P : α → β → γ → δ → ε → ζ → Prop) (h1 : (∀ x y z t u v, F x y z t u v → P x y z t u v) → G) (h2 : ∀ x y z t u v, F x y z t u v → P x y z t u v) : G := h1 h2

end Go.Proofs.Ytbbbgpdhdlknjaa

/- From a law's walk to its row, over any program: it returns true, and nothing that was there has turned. -/
namespace Go.Proofs.Ytbbbgpdhdlknjaa
set_option linter.unusedVariables false
set_option linter.unusedSimpArgs false
open Go.ChangeShapes Go.WideShapes Go.ChangeAt Go.RowKit

section
variable {H : Type} {enc : TypeId × Value → H} {P : Program}

theorem trodAll_below {W W' : World} (hl : laidOutB P = true) (hb : Below W.heap.size W W') :
    ∀ (ts : List TypeId) (vs : List Value) (ds : List (DataW H)) (ps : List MemPlace), ts.all (fun t => P.readableRec t && decide (t < P.types.size)) = true →
      DataW.TrodAll enc P W 0 (fun _ => true) true ts vs ds ps → (∀ x ∈ ps, x.block < W.heap.size) → DataW.TrodAll enc P W' 0 (fun b => decide (b < W.heap.size)) true ts vs ds ps
  | [], [], [], ps, _, h, _ => h
  | t :: ts, v :: vs, d :: ds, ps, hr, h, hlt => by
    simp only [List.all_cons, Bool.and_eq_true, decide_eq_true_eq] at hr
    obtain ⟨p, q, h1, h2, rfl⟩ := h
    exact ⟨p, q, Below.trod hl hr.1.1 hr.1.2 h1 hb (fun x hx => hlt x (List.mem_append_left _ hx)), trodAll_below hl hb ts vs ds q hr.2 h2 (fun x hx => hlt x (List.mem_append_right _ hx)), rfl⟩
  | [], _ :: _, _, _, _, h, _ => h.elim
  | [], [], _ :: _, _, _, h, _ => h.elim
  | _ :: _, [], _, _, _, h, _ => h.elim
  | _ :: _, _ :: _, [], _, _, h, _ => h.elim

theorem post_true {fn : Func} {s : ChangeSpec} {W W' : World} {args : Array Value} {ds gs : List (DataW H)} {before : List MemPlace} (tb : TypeId)
    (hl : laidOutB P = true) (hr : fn.params.toList.all (fun t => P.readableRec t && decide (t < P.types.size)) = true) (hrt : fn.resultTypes = #[tb]) (hbt : P.underlying tb = some .bool)
    (hvars : s.vars = []) (hW : DataW.Whole enc P fn.params.toList s.vars false W args.toList ds gs before)
    (hspec : s.fn H (ds ++ gs) = { results := [.lit (.bool true)], args := ds }) (hb : Below W.heap.size W W') :
    s.post enc P fn false true false false W args (.bool true) W' := by
  have hW' := hW
  obtain ⟨p, q, hA, hV, rfl, hfz, hnd⟩ := hW
  rw [hvars] at hV
  refine ⟨ds, gs, _, [], p, [], hW', ?_, ?_, ?_, hb.frame _, fun h => by cases h⟩
  · rw [hrt, hspec]
    exact trodAll_mk1 (shut_bool hbt true)
  · rw [hspec]
    exact trodAll_below hl hb _ _ _ _ hr hA (fun x hx => hW'.lt x (List.mem_append_left _ hx))
  · rw [hspec, hvars]; rfl

end
end Go.Proofs.Ytbbbgpdhdlknjaa

/- What the arguments of a law read as, over any program: bytes, arrays of bytes, slices of whatever elements. -/
namespace Go.Proofs.Ytbbbgpdhdlknjaa
set_option linter.unusedVariables false
set_option linter.unusedSimpArgs false
open Go.ChangeShapes Go.WideShapes Go.ChangeAt Go.RowKit Go.Deep

section
variable {H : Type} {enc : TypeId × Value → H} {P : Program} {w : World}

theorem byte_of_wf {n : Int} (h : (Lit.int .u8 n).wf = true) : ∃ x : UInt8, Value.int .u8 n = bv x := by
  have h1 : IntKind.u8.min = 0 := rfl
  have h2 : IntKind.u8.max = 255 := rfl
  simp only [Lit.wf, Bool.and_eq_true, decide_eq_true_eq, h1, h2] at h
  refine ⟨UInt8.ofNat n.toNat, ?_⟩
  rw [bv_ofNat]
  congr 1
  omega

/-- A cell that reads as a byte. -/
theorem opened_u8 {e : TypeId} {fuel : Nat} {c : List Value} {x : DataW H × List MemPlace} (he : P.underlying e = some (.int .u8)) (h : DataW.trod enc P w 0 (fun _ => true) true fuel e c = some x) :
    ∃ b : UInt8, c = [bv b] := by
  obtain ⟨n, rfl, _, hw⟩ := DataW.trod_int he h
  obtain ⟨b, hb⟩ := byte_of_wf hw
  exact ⟨b, by rw [hb]⟩

theorem bytes_of_each (cs : List Value) (h : ∀ i, i < cs.length → ∃ b : UInt8, (cs.drop i).take 1 = [bv b]) : ∃ L : List UInt8, cs = bvs L := by
  induction cs with
  | nil => exact ⟨[], rfl⟩
  | cons c cs ih =>
    obtain ⟨b, hb⟩ := h 0 (by simp)
    simp at hb
    obtain ⟨L, hL⟩ := ih (fun i hi => by
      have := h (i + 1) (by simp; omega)
      simpa using this)
    exact ⟨b :: L, by rw [hb, hL]; rfl⟩

/-- An array of bytes. -/
theorem opened_array {t e : TypeId} {n fuel : Nat} {cs : List Value} {x : DataW H × List MemPlace} (ht : P.underlying t = some (.array n e)) (he : P.underlying e = some (.int .u8)) (hC : P.cellsOf e = 1) (hT : P.cellsOf t = n)
    (h : DataW.trod enc P w 0 (fun _ => true) true fuel t cs = some x) : ∃ L : List UInt8, cs = bvs L ∧ L.length = n := by
  obtain ⟨xs, m, _, _, hl, hxs, hi⟩ := DataW.trod_array ht h
  rw [hT] at hl
  obtain ⟨L, hL⟩ := bytes_of_each cs (fun i hlt => by
    have h1 := hi i (by omega)
    rw [hC, Nat.mul_one] at h1
    have h2 : xs[i]? = some (xs[i]'(by omega)) := List.getElem?_eq_getElem (by omega)
    rw [h2] at h1
    exact opened_u8 he h1)
  exact ⟨L, hL, by rw [← hl, hL]; simp⟩

/-- A struct: each field by its place: its type, its first cell, its cells. -/
theorem opened_struct {t : TypeId} {fs : Array Field} {fuel : Nat} {cs : List Value} {x : DataW H × List MemPlace} (ht : P.underlying t = some (.struct fs)) (h : DataW.trod enc P w 0 (fun _ => true) true fuel t cs = some x) :
    cs.length = P.cellsOf t ∧ ∃ n, ∀ (i ty off sz : Nat), (fs[i]?).map (fun f => (f.type, f.offset)) = some (ty, off) → P.cellsOf ty = sz → ∃ y, DataW.trod enc P w 0 (fun _ => true) true n ty ((cs.drop off).take sz) = some y := by
  obtain ⟨xs, n, _, _, hl, hxl, hf⟩ := DataW.trod_struct ht h
  refine ⟨hl, n, fun i ty off sz hi hsz => ?_⟩
  simp only [Option.map_eq_some_iff, Prod.mk.injEq] at hi
  obtain ⟨f, hf1, rfl, rfl⟩ := hi
  subst hsz
  have hlt : i < xs.length := by rw [hxl]; exact (Array.getElem?_eq_some_iff.1 hf1).1
  exact ⟨_, (hf i f hf1).trans (List.getElem?_eq_getElem hlt)⟩

/-- A slice of whatever elements: 'hel': what an element's cells are; R: what is said of an element at its place. -/
theorem opened_slice {α : Type} [Inhabited α] {R : World → Nat → Nat → α → Prop} {size : Nat} {t e : TypeId} {fuel : Nat} {cs : List Value} {x : DataW H × List MemPlace} (ht : P.underlying t = some (.slice e)) (hC : P.cellsOf e = size) (hpos : 0 < size)
    (hel : ∀ (fuel : Nat) (cs' : List Value) (y : DataW H × List MemPlace), DataW.trod enc P w 0 (fun _ => true) true fuel e cs' = some y → cs'.length = size → ∃ a : α, ∀ b o, At w b o cs' → R w b o a)
    (h : DataW.trod enc P w 0 (fun _ => true) true fuel t cs = some x) : ∃ (v : Value) (l : List α), cs = [v] ∧ Sl R size w v l := by
  rcases open_slice ht h with ⟨h0, _⟩ | ⟨a, len, cap, m, n, D, Pl, hcs, hb, hl, hm, hmm, hx, hi⟩
  · exact ⟨_, [], h0, .inl ⟨rfl, _, _, rfl⟩⟩
  · simp only [if_true] at hmm
    subst hmm
    rcases Nat.eq_zero_or_pos len with h0 | h0
    · subst h0
      exact ⟨_, [], hcs, .inl ⟨rfl, _, _, rfl⟩⟩
    obtain ⟨b, off, sp⟩ := a
    have hsp : sp = none := by
      obtain ⟨cs', h1, _⟩ := hi 0 (by omega)
      obtain ⟨_, h2, h3⟩ := World.cells?_some h1
      rw [hC] at h2 h3
      have h4 := h3 0 hpos
      simp only [Nat.zero_mul] at h4
      have : (cs'[0]?) = some (cs'[0]'(by omega)) := List.getElem?_eq_getElem (by omega)
      rw [this] at h4
      simp only [Addr.add, if_true] at h4
      unfold World.cell? at h4
      split at h4
      · split at h4
        · cases h4
        · cases sp <;> simp_all
      · cases h4
    subst hsp
    have hall : ∀ i, i < len → ∃ y : α, R w b (off + i * size) y := by
      intro i hil
      obtain ⟨cs', h1, h2⟩ := hi i (by omega)
      obtain ⟨_, h3, h4⟩ := World.cells?_some h1
      rw [hC] at h3 h4
      obtain ⟨y, hy⟩ := hel n cs' _ h2 h3
      refine ⟨y, hy b _ ?_⟩
      intro j u hj
      have hjs : j < size := by rw [← h3]; exact (List.getElem?_eq_some_iff.1 hj).1
      have := h4 j hjs
      rw [add_at, add_at] at this
      rw [this]; exact hj
    obtain ⟨f, hf⟩ := choose_lt hall
    refine ⟨_, (List.range len).map f, hcs, .inr ⟨b, off, m, by simp, by simpa using hl, hm, ?_⟩⟩
    intro i y hy
    simp only [List.getElem?_map, Option.map_eq_some_iff] at hy
    obtain ⟨j, hj, rfl⟩ := hy
    have hj' : i < len ∧ j = i := by
      rcases Nat.lt_or_ge i len with h | h
      · rw [List.getElem?_range h] at hj
        exact ⟨h, (Option.some.inj hj).symm⟩
      · rw [List.getElem?_eq_none (by simpa using h)] at hj
        cases hj
    obtain ⟨h1, rfl⟩ := hj'
    exact hf j h1

def ByteAt (w : World) (b o : Nat) (x : UInt8) : Prop := w.cell? ⟨b, o, none⟩ = some (bv x)

theorem Sl.rd {w : World} {v : Value} {l : List UInt8} (h : Sl ByteAt 1 w v l) (hv : v = .slice none 0 0 ∨ ∃ a n c, v = .slice (some a) n c ∧ n ≤ c ∧ c ≤ maxLen) : Rd w 1 v l.length (bvs l) := by
  refine ⟨by simp, ?_⟩
  rcases h with ⟨rfl, a, c, rfl⟩ | ⟨b, off, c, rfl, h1, h2, h3⟩
  · rcases hv with hv | ⟨a', n', c', hv, h1, h2⟩
    · exact .inl ⟨hv, rfl⟩
    · simp at hv
      obtain ⟨rfl, rfl, rfl⟩ := hv
      exact .inr ⟨a', c, rfl, h1, h2, fun j u hj => by simp [bvs] at hj⟩
  · refine .inr ⟨_, c, rfl, h1, h2, fun j u hj => ?_⟩
    simp only [bvs, List.getElem?_map, Option.map_eq_some_iff] at hj
    obtain ⟨x, hx, rfl⟩ := hj
    rw [add_at]
    have := h3 j x hx
    simpa [ByteAt] using this

/-- A slice of bytes. -/
theorem opened_bytes {t e : TypeId} {fuel : Nat} {cs : List Value} {x : DataW H × List MemPlace} (ht : P.underlying t = some (.slice e)) (he : P.underlying e = some (.int .u8)) (hC : P.cellsOf e = 1)
    (h : DataW.trod enc P w 0 (fun _ => true) true fuel t cs = some x) : ∃ (v : Value) (l : List UInt8), cs = [v] ∧ Rd w 1 v l.length (bvs l) := by
  obtain ⟨v, l, hv, hs⟩ := opened_slice (R := ByteAt) ht hC (by decide) (fun fuel cs' y hy _ => by
    obtain ⟨b, rfl⟩ := opened_u8 he hy
    exact ⟨b, fun b' o hat => hat.cell0'⟩) h
  refine ⟨v, l, hv, hs.rd ?_⟩
  rcases open_slice ht h with ⟨h0, _⟩ | ⟨a, len, cap, m, n, D, Pl, hcs, hb, hl, hm, hmm, hx, hi⟩
  · rw [hv] at h0; simp at h0; exact .inl h0
  · rw [hv] at hcs; simp at hcs; exact .inr ⟨a, len, cap, hcs, hl, hm⟩

end
end Go.Proofs.Ytbbbgpdhdlknjaa

/- Slices of slices, over any program. -/
namespace Go.Proofs.Ytbbbgpdhdlknjaa
set_option linter.unusedVariables false
set_option linter.unusedSimpArgs false
open Go.RowKit

theorem wpList_slice {P : Program} {ops : Array Oper} {rest : List Oper} {o : Oper} {a : Act} {w : World} {Q : Exit → Act → World → Prop} (hgd : o.guard = none) (t : TypeId) (x : Operand) (lo hi mx : Option Operand) (ho : o.op = .slice t x lo hi mx) (v : Value)
    (hr : (Instr.sliceAt t (a.eval x) (lo.map a.eval) (hi.map a.eval) (mx.map a.eval)).run P w = .ok v w)
    (h : wpList P ops Q rest (a.put o.dst v) w) : wpList P ops Q (o :: rest) a w := by
  refine wpList_plain hgd fun _ hK => ?_
  unfold Oper.wp execOp
  simp only [ho, hr, Sem.run_bind, Sem.run_pure, Result.andThen_ok]
  exact hK _ _ h

section
variable {P : Program} {w : World}

/-- x[i:] -/
theorem run_slice_from {t e : TypeId} {size : Nat} (ht : P.underlying t = some (.slice e)) (hs : (P.info? e).map (·.size) = some size) (a : Option Addr) (n c i : Nat) (hi : i ≤ n) :
    (Instr.sliceAt t (.slice a n c) (some (.int .i64 (i : Int))) none none).run P w = .ok (.slice (if c = i then a else a.map (·.add (i * size))) (n - i) (c - i)) w := by
  have h1 : (Instr.sliceBound (.int .i64 (i : Int)) n .sliceB).run P w = .ok i w := by
    have := run_sliceBound (P := P) (w := w) .i64 (i : Int) n .sliceB (by omega) (by omega)
    simpa using this
  simp [Instr.sliceAt, Instr.slice, run_underlying ht, Instr.sliceBounds, h1, run_size_of hs, go_sem]

/-- x[:j] -/
theorem run_slice_to {t e : TypeId} {size : Nat} (ht : P.underlying t = some (.slice e)) (hs : (P.info? e).map (·.size) = some size) (a : Option Addr) (n c j : Nat) (hj : j ≤ c) :
    (Instr.sliceAt t (.slice a n c) none (some (.int .i64 (j : Int))) none).run P w = .ok (.slice a j c) w := by
  have h1 : (Instr.sliceBound (.int .i64 (j : Int)) c .sliceAcap).run P w = .ok j w := by
    have := run_sliceBound (P := P) (w := w) .i64 (j : Int) c .sliceAcap (by omega) (by omega)
    simpa using this
  have h2 : ∀ a : Option Addr, a.map (·.add 0) = a := fun a => by cases a <;> rfl
  simp [Instr.sliceAt, Instr.slice, run_underlying ht, Instr.sliceBounds, h1, run_size_of hs, go_sem, h2]

end

/-- A part of what is read. -/
theorem Rd.sub {w : World} {size : Nat} {a : Option Addr} {n c : Nat} {cs : List Value} (h : Rd w size (.slice a n c) n cs) (o k : Nat) (ho : o + k ≤ n) :
    Rd w size (.slice (if c = o then a else a.map (·.add (o * size))) k (c - o)) k ((cs.drop (o * size)).take (k * size)) := by
  have hl := h.1
  have hok : o * size + k * size ≤ n * size := by rw [← Nat.add_mul]; exact Nat.mul_le_mul_right _ ho
  refine ⟨by rw [List.length_take, List.length_drop]; omega, ?_⟩
  rcases h.2 with ⟨he, h0⟩ | ⟨ad, c', he, h1, h2, hcell⟩
  · simp only [Value.slice.injEq] at he
    obtain ⟨rfl, _, rfl⟩ := he
    have ho0 : o = 0 := by omega
    have hk0 : k = 0 := by omega
    subst ho0 hk0
    exact .inl ⟨by simp, rfl⟩
  · simp only [Value.slice.injEq] at he
    obtain ⟨rfl, _, rfl⟩ := he
    by_cases hc : c = o
    · have hk0 : k = 0 := by omega
      subst hk0
      rw [if_pos hc]
      exact .inr ⟨ad, c - o, rfl, by omega, by omega, fun j u hj => by simp at hj⟩
    · rw [if_neg hc]
      refine .inr ⟨ad.add (o * size), c - o, rfl, by omega, by omega, fun j u hj => ?_⟩
      rw [add_add_addr]
      refine hcell _ u ?_
      rw [List.getElem?_take] at hj
      split at hj
      · rwa [List.getElem?_drop] at hj
      · cases hj

theorem add_zero_addr (ad : Addr) : ad.add 0 = ad := rfl

theorem ownBlock_part {a : Option Addr} {n c o k x m : Nat} {g : Nat} (h : (Value.slice (if c = o then a else a.map (·.add x)) k m).ownBlock = some g) : (Value.slice a n c).ownBlock = some g := by
  split at h
  · cases a with
    | none => simp [Value.ownBlock] at h
    | some ad => simpa [Value.ownBlock] using h
  · cases a with
    | none => simp [Value.ownBlock] at h
    | some ad => simpa [Value.ownBlock, Addr.add_block] using h

end Go.Proofs.Ytbbbgpdhdlknjaa

/- Merkle: rows, paths, sizes: the plain law. -/
namespace Go.Proofs.Ytbbbgpdhdlknjaa
set_option linter.unusedVariables false
set_option linter.unusedSimpArgs false

section
variable {α : Type} (K : α → α → α) (d : α)

/-- The row above a row. -/
def up : List α → List α
  | a :: b :: l => K a b :: up l
  | [a] => [a]
  | [] => []

def upN : Nat → List α → List α
  | 0, l => l
  | m + 1, l => up K (upN m l)

theorem up_length (l : List α) : (up K l).length = (l.length + 1) / 2 := by
  induction l using up.induct with
  | case1 a b l ih => simp [up, ih]; omega
  | case2 a => simp [up]
  | case3 => simp [up]

theorem up_append (l1 l2 : List α) (h : l1.length % 2 = 0) : up K (l1 ++ l2) = up K l1 ++ up K l2 := by
  induction l1 using up.induct with
  | case1 a b l ih =>
    have h' : l.length % 2 = 0 := by simp at h; omega
    simp [up, ih h']
  | case2 a => simp at h
  | case3 => simp [up]

theorem upN_single (x : α) (m : Nat) : upN K m [x] = [x] := by
  induction m with
  | zero => rfl
  | succ m ih => simp [upN, ih, up]

theorem upN_nil (m : Nat) : upN K m [] = [] := by
  induction m with
  | zero => rfl
  | succ m ih => simp [upN, ih, up]

theorem upN_add (a b : Nat) (l : List α) : upN K (a + b) l = upN K b (upN K a l) := by
  induction b with
  | zero => rfl
  | succ b ih => show up K (upN K (a + b) l) = up K (upN K b (upN K a l)); rw [ih]

/-- How long the t-th row above is. -/
def cnt (c : Nat) : Nat → Nat
  | 0 => c
  | t + 1 => (cnt c t + 1) / 2

theorem upN_length (t : Nat) (l : List α) : (upN K t l).length = cnt l.length t := by
  induction t with
  | zero => rfl
  | succ t ih => simp [upN, up_length, ih, cnt]

theorem cnt_pow (m t : Nat) (h : t ≤ m) : cnt (2 ^ m) t = 2 ^ (m - t) := by
  induction t with
  | zero => rfl
  | succ t ih =>
    rw [cnt, ih (by omega)]
    have : m - t = (m - (t + 1)) + 1 := by omega
    rw [this, Nat.pow_succ]
    omega

theorem cnt_mono (a b t : Nat) (h : a ≤ b) : cnt a t ≤ cnt b t := by
  induction t with
  | zero => exact h
  | succ t ih => simp only [cnt]; omega

theorem cnt_add_pow (m t c : Nat) (h : t ≤ m) : cnt (2 ^ m + c) t = 2 ^ (m - t) + cnt c t := by
  induction t with
  | zero => rfl
  | succ t ih =>
    rw [cnt, ih (by omega), cnt]
    have : m - t = (m - (t + 1)) + 1 := by omega
    rw [this, Nat.pow_succ]
    omega

theorem cnt_pos (c t : Nat) (h : 1 ≤ c) : 1 ≤ cnt c t := by
  induction t with
  | zero => exact h
  | succ t ih => simp only [cnt]; omega

theorem cnt_div (n c t : Nat) (h : n < c) : n / 2 ^ t < cnt c t := by
  induction t with
  | zero => simpa [cnt] using h
  | succ t ih =>
    rw [Nat.pow_succ, ← Nat.div_div_eq_div_mul, cnt]
    omega

theorem upN_append (m t : Nat) (l1 l2 : List α) (hl : l1.length = 2 ^ m) (h : t ≤ m) : upN K t (l1 ++ l2) = upN K t l1 ++ upN K t l2 := by
  induction t with
  | zero => rfl
  | succ t ih =>
    rw [upN, ih (by omega), up_append]
    · rfl
    · rw [upN_length, hl, cnt_pow m t (by omega)]
      have : m - t = (m - t - 1) + 1 := by omega
      rw [this, Nat.pow_succ]
      omega

def leftM : Nat → List α → α
  | 0, l => l.headD d
  | m + 1, l => if l.length ≤ 2 ^ m then leftM m l else K (leftM m (l.take (2 ^ m))) (leftM m (l.drop (2 ^ m)))

theorem upN_left (m : Nat) (l : List α) (h1 : 1 ≤ l.length) (h2 : l.length ≤ 2 ^ m) : upN K m l = [leftM K d m l] := by
  induction m generalizing l with
  | zero =>
    obtain ⟨x, rfl⟩ := List.length_eq_one_iff.1 (show l.length = 1 by simp at h2; omega)
    rfl
  | succ m ih =>
    by_cases h : l.length ≤ 2 ^ m
    · rw [upN, ih l h1 h, leftM, if_pos h]; rfl
    · have hp : 2 ^ (m + 1) = 2 ^ m * 2 := Nat.pow_succ _ _
      rw [leftM, if_neg h]
      have e1 : l = l.take (2 ^ m) ++ l.drop (2 ^ m) := (List.take_append_drop _ _).symm
      have l1 : (l.take (2 ^ m)).length = 2 ^ m := by rw [List.length_take]; omega
      have l2 : (l.drop (2 ^ m)).length = l.length - 2 ^ m := List.length_drop
      rw [upN]
      conv => lhs; rw [e1]
      rw [upN_append K m m _ _ l1 (Nat.le_refl _), ih _ (by omega) (by omega), ih (l.drop (2 ^ m)) (by omega) (by omega)]
      rfl

theorem upN_stop (t m : Nat) (l : List α) (h1 : (upN K t l).length ≤ 1) (h : t ≤ m) : upN K m l = upN K t l := by
  obtain ⟨e, rfl⟩ : ∃ e, m = t + e := ⟨m - t, by omega⟩
  rw [upN_add]
  generalize upN K t l = r at h1 ⊢
  rcases r with _ | ⟨x, r⟩
  · exact upN_nil K e
  · have : r = [] := List.eq_nil_of_length_eq_zero (by simpa using h1)
    subst this
    exact upN_single K x e

theorem upN_end (t m : Nat) (l : List α) (h0 : 1 ≤ l.length) (hm : l.length ≤ 2 ^ m) (h1 : (upN K t l).length ≤ 1) : upN K t l = [leftM K d m l] := by
  have h2 := upN_left K d m l h0 hm
  rcases Nat.le_total t m with h | h
  · rw [← upN_stop K t m l h1 h, h2]
  · rw [upN_stop K m t l (by rw [h2]; simp) h, h2]

/-- The place beside a place. -/
def bes (n : Nat) : Nat := if n % 2 = 0 then n + 1 else n - 1

theorem bes_lt_even {n c : Nat} (h : n < 2 * c) : bes n < 2 * c := by unfold bes; split <;> omega
theorem bes_add (n c : Nat) : bes (2 * c + n) = 2 * c + bes n := by unfold bes; split <;> split <;> omega

/-- The path behind t rows. -/
def accP (n : Nat) (l : List α) : Nat → List α
  | 0 => []
  | t + 1 => accP n l t ++ (if bes (n / 2 ^ t) < (upN K t l).length then [(upN K t l).getD (bes (n / 2 ^ t)) d] else [])

def pathM : Nat → Nat → List α → List α
  | 0, _, _ => []
  | m + 1, n, l => if l.length ≤ 2 ^ m then pathM m n l else if n < 2 ^ m then pathM m n (l.take (2 ^ m)) ++ [leftM K d m (l.drop (2 ^ m))] else pathM m (n - 2 ^ m) (l.drop (2 ^ m)) ++ [leftM K d m (l.take (2 ^ m))]

theorem accP_stop (n : Nat) (l : List α) (t : Nat) (hn : n < l.length) (h : (upN K t l).length ≤ 1) (m : Nat) (hm : t ≤ m) : accP K d n l m = accP K d n l t := by
  obtain ⟨e, rfl⟩ : ∃ e, m = t + e := ⟨m - t, by omega⟩
  clear hm
  induction e with
  | zero => rfl
  | succ e ih =>
    rw [show t + (e + 1) = (t + e) + 1 by omega, accP, ih]
    have h1 : upN K (t + e) l = upN K t l := upN_stop K t (t + e) l h (by omega)
    have h2 := cnt_div n l.length (t + e) hn
    rw [← upN_length K (t + e) l, h1] at h2
    have h3 : n / 2 ^ (t + e) = 0 := Nat.lt_one_iff.1 (Nat.lt_of_lt_of_le h2 h)
    rw [h1, h3, if_neg]
    · simp
    · rw [show bes 0 = 1 from rfl]
      omega

theorem accP_left (m n : Nat) (l1 l2 : List α) (hl : l1.length = 2 ^ m) (hn : n < 2 ^ m) (t : Nat) (ht : t ≤ m) : accP K d n (l1 ++ l2) t = accP K d n l1 t := by
  induction t with
  | zero => rfl
  | succ t ih =>
    rw [accP, accP, ih (by omega), upN_append K m t l1 l2 hl (by omega)]
    have hc : (upN K t l1).length = 2 * 2 ^ (m - t - 1) := by
      rw [upN_length, hl, cnt_pow m t (by omega), ← Nat.pow_succ']
      congr 1; omega
    have hd : n / 2 ^ t < 2 * 2 ^ (m - t - 1) := by
      have := cnt_div n (2 ^ m) t hn
      rw [cnt_pow m t (by omega)] at this
      have e : m - t = (m - t - 1) + 1 := by omega
      rw [e] at this
      rw [← Nat.pow_succ']
      exact this
    have hb := bes_lt_even hd
    rw [if_pos (by rw [List.length_append]; omega), if_pos (by omega)]
    congr 2
    simp only [List.getD_eq_getElem?_getD]
    rw [List.getElem?_append_left (by omega)]

theorem accP_right (m n : Nat) (l1 l2 : List α) (hl : l1.length = 2 ^ m) (t : Nat) (ht : t ≤ m) : accP K d (2 ^ m + n) (l1 ++ l2) t = accP K d n l2 t := by
  induction t with
  | zero => rfl
  | succ t ih =>
    rw [accP, accP, ih (by omega), upN_append K m t l1 l2 hl (by omega)]
    have hc : (upN K t l1).length = 2 * 2 ^ (m - t - 1) := by
      rw [upN_length, hl, cnt_pow m t (by omega), ← Nat.pow_succ']
      congr 1; omega
    have hd : (2 ^ m + n) / 2 ^ t = 2 * 2 ^ (m - t - 1) + n / 2 ^ t := by
      have h1 : 2 ^ m = 2 ^ t * (2 * 2 ^ (m - t - 1)) := by
        rw [← Nat.pow_succ', ← Nat.pow_add]
        congr 1; omega
      rw [h1, Nat.mul_add_div (Nat.pow_pos (by omega))]
    rw [hd, bes_add, List.length_append, hc]
    by_cases hb : bes (n / 2 ^ t) < (upN K t l2).length
    · rw [if_pos (by omega), if_pos hb]
      congr 2
      simp only [List.getD_eq_getElem?_getD]
      rw [List.getElem?_append_right (by omega), hc]
      congr 3
      omega
    · rw [if_neg (by omega), if_neg hb]

theorem accP_path (m n : Nat) (l : List α) (hn : n < l.length) (hl : l.length ≤ 2 ^ m) : accP K d n l m = pathM K d m n l := by
  induction m generalizing n l with
  | zero => rfl
  | succ m ih =>
    have hp : 2 ^ (m + 1) = 2 ^ m * 2 := Nat.pow_succ _ _
    rw [pathM]
    by_cases h : l.length ≤ 2 ^ m
    · rw [if_pos h, accP_stop K d n l m hn (by rw [upN_left K d m l (by omega) h]; simp) (m + 1) (by omega)]
      exact ih n l hn h
    · rw [if_neg h]
      have e1 : l = l.take (2 ^ m) ++ l.drop (2 ^ m) := (List.take_append_drop _ _).symm
      have l1 : (l.take (2 ^ m)).length = 2 ^ m := by rw [List.length_take]; omega
      have l2 : (l.drop (2 ^ m)).length = l.length - 2 ^ m := List.length_drop
      have hrow : upN K m l = [leftM K d m (l.take (2 ^ m)), leftM K d m (l.drop (2 ^ m))] := by
        conv => lhs; rw [e1]
        rw [upN_append K m m _ _ l1 (Nat.le_refl _), upN_left K d m _ (by omega) (by omega), upN_left K d m _ (by omega) (by omega)]
        rfl
      rw [accP, hrow]
      by_cases hk : n < 2 ^ m
      · rw [if_pos hk]
        have h0 : n / 2 ^ m = 0 := Nat.div_eq_of_lt hk
        rw [h0]
        have h2 : accP K d n l m = pathM K d m n (l.take (2 ^ m)) := by
          conv => lhs; rw [e1]
          rw [accP_left K d m n _ _ l1 hk m (Nat.le_refl _)]
          exact ih n _ (by omega) (by omega)
        rw [h2]
        rfl
      · rw [if_neg hk]
        have hpos : 0 < 2 ^ m := Nat.pow_pos (by omega)
        have h0 : n / 2 ^ m = 1 := by
          apply Nat.div_eq_of_lt_le <;> omega
        rw [h0]
        have h2 : accP K d n l m = pathM K d m (n - 2 ^ m) (l.drop (2 ^ m)) := by
          conv => lhs; rw [e1]
          conv => lhs; rw [show n = 2 ^ m + (n - 2 ^ m) by omega]
          rw [accP_right K d m (n - 2 ^ m) _ _ l1 m (Nat.le_refl _)]
          exact ih (n - 2 ^ m) _ (by omega) (by omega)
        rw [h2]
        rfl

theorem accP_end (t m n : Nat) (l : List α) (hn : n < l.length) (hm : l.length ≤ 2 ^ m) (h1 : (upN K t l).length ≤ 1) : accP K d n l t = pathM K d m n l := by
  have h2 := upN_left K d m l (by omega) hm
  rw [← accP_path K d m n l hn hm]
  rcases Nat.le_total t m with h | h
  · exact (accP_stop K d n l t hn h1 m h).symm
  · exact accP_stop K d n l m hn (by rw [h2]; simp) t h
end

/-- How many behind t rows. -/
def accS (n c : Nat) : Nat → Nat
  | 0 => 0
  | t + 1 => accS n c t + (if bes (n / 2 ^ t) < cnt c t then 1 else 0)

def sizeM : Nat → Nat → Nat → Nat
  | 0, _, _ => 0
  | m + 1, n, c => if c ≤ 2 ^ m then sizeM m n c else if n < 2 ^ m then 1 + sizeM m n (2 ^ m) else 1 + sizeM m (n - 2 ^ m) (c - 2 ^ m)

theorem accP_length {α : Type} (K : α → α → α) (d : α) (n : Nat) (l : List α) (t : Nat) : (accP K d n l t).length = accS n l.length t := by
  induction t with
  | zero => rfl
  | succ t ih =>
    rw [accP, accS, List.length_append, ih, upN_length]
    split <;> rfl

theorem pathM_length {α : Type} (K : α → α → α) (d : α) (m n : Nat) (l : List α) (hl : l.length ≤ 2 ^ m) : (pathM K d m n l).length = sizeM m n l.length := by
  induction m generalizing n l with
  | zero => rfl
  | succ m ih =>
    have hp : 2 ^ (m + 1) = 2 ^ m * 2 := Nat.pow_succ _ _
    rw [pathM, sizeM]
    by_cases h : l.length ≤ 2 ^ m
    · rw [if_pos h, if_pos h, ih n l h]
    · rw [if_neg h, if_neg h]
      have l1 : (l.take (2 ^ m)).length = 2 ^ m := by rw [List.length_take]; omega
      have l2 : (l.drop (2 ^ m)).length = l.length - 2 ^ m := List.length_drop
      split
      · rw [List.length_append, ih _ _ (by omega), l1]; simp; omega
      · rw [List.length_append, ih _ _ (by omega), l2]; simp; omega

theorem accS_end (t m n c : Nat) (hn : n < c) (hm : c ≤ 2 ^ m) (h1 : cnt c t ≤ 1) : accS n c t = sizeM m n c := by
  have hl : (List.replicate c ()).length = c := List.length_replicate
  have h := accP_end (fun _ _ => ()) () t m n (List.replicate c ()) (by omega) (by omega) (by rw [upN_length, hl]; exact h1)
  have h2 := congrArg List.length h
  rw [accP_length, pathM_length _ _ _ _ _ (by omega), hl] at h2
  exact h2

theorem sizeM_le (m n c : Nat) : sizeM m n c ≤ m := by
  induction m generalizing n c with
  | zero => simp [sizeM]
  | succ m ih =>
    rw [sizeM]
    split
    · have := ih n c; omega
    · split
      · have := ih n (2 ^ m); omega
      · have := ih (n - 2 ^ m) (c - 2 ^ m); omega
end Go.Proofs.Ytbbbgpdhdlknjaa

/- Merkle: what a path comes to: the plain law. -/
namespace Go.Proofs.Ytbbbgpdhdlknjaa
set_option linter.unusedVariables false
set_option linter.unusedSimpArgs false

section
variable {α : Type} (K : α → α → α) (d : α)

/-- One row up. -/
def stepL (p q : Nat) (s : α × List α) : α × List α :=
  if bes p < q then (if p % 2 = 1 then K (s.2.headD d) s.1 else K s.1 (s.2.headD d), s.2.tail) else s

def accL (n c : Nat) (a : α) (hs : List α) : Nat → α × List α
  | 0 => (a, hs)
  | t + 1 => stepL K d (n / 2 ^ t) (cnt c t) (accL n c a hs t)

def leadM : Nat → Nat → Nat → α → List α → α
  | 0, _, _, a, _ => a
  | m + 1, n, c, a, hs => if c ≤ 2 ^ m then leadM m n c a hs else if n < 2 ^ m then K (leadM m n (2 ^ m) a (hs.take (hs.length - 1))) (hs.getD (hs.length - 1) d) else K (hs.getD (hs.length - 1) d) (leadM m (n - 2 ^ m) (c - 2 ^ m) a (hs.take (hs.length - 1)))

theorem accL_stop (n c : Nat) (a : α) (hs : List α) (t : Nat) (hn : n < c) (h : cnt c t ≤ 1) (m : Nat) (hm : t ≤ m) : accL K d n c a hs m = accL K d n c a hs t := by
  obtain ⟨e, rfl⟩ : ∃ e, m = t + e := ⟨m - t, by omega⟩
  clear hm
  have hc : ∀ e, cnt c (t + e) ≤ 1 := by
    intro e
    induction e with
    | zero => exact h
    | succ e ih => show (cnt c (t + e) + 1) / 2 ≤ 1; omega
  induction e with
  | zero => rfl
  | succ e ih =>
    rw [show t + (e + 1) = (t + e) + 1 by omega, accL, ih]
    have h2 := cnt_div n c (t + e) hn
    have h4 := hc e
    have h3 : n / 2 ^ (t + e) = 0 := Nat.lt_one_iff.1 (Nat.lt_of_lt_of_le h2 h4)
    rw [h3, stepL, if_neg]
    rw [show bes 0 = 1 from rfl]
    omega

theorem accL_left (m n c : Nat) (a : α) (hs : List α) (hn : n < 2 ^ m) (t : Nat) (ht : t ≤ m) : accL K d n (2 ^ m + c) a hs t = accL K d n (2 ^ m) a hs t := by
  induction t with
  | zero => rfl
  | succ t ih =>
    rw [accL, accL, ih (by omega)]
    have hd : n / 2 ^ t < 2 * 2 ^ (m - t - 1) := by
      have := cnt_div n (2 ^ m) t hn
      rw [cnt_pow m t (by omega)] at this
      have e : m - t = (m - t - 1) + 1 := by omega
      rw [e] at this
      rw [← Nat.pow_succ']
      exact this
    have hb := bes_lt_even hd
    have hp : 2 ^ (m - t) = 2 * 2 ^ (m - t - 1) := by rw [← Nat.pow_succ']; congr 1; omega
    have h1 : cnt (2 ^ m + c) t = 2 ^ (m - t) + cnt c t := cnt_add_pow m t c (by omega)
    have h2 : cnt (2 ^ m) t = 2 ^ (m - t) := cnt_pow m t (by omega)
    unfold stepL
    rw [if_pos (show bes (n / 2 ^ t) < cnt (2 ^ m + c) t by rw [h1]; omega), if_pos (show bes (n / 2 ^ t) < cnt (2 ^ m) t by rw [h2]; omega)]

theorem accL_right (m n c : Nat) (a : α) (hs : List α) (t : Nat) (ht : t ≤ m) : accL K d (2 ^ m + n) (2 ^ m + c) a hs t = accL K d n c a hs t := by
  induction t with
  | zero => rfl
  | succ t ih =>
    rw [accL, accL, ih (by omega)]
    have hd : (2 ^ m + n) / 2 ^ t = 2 * 2 ^ (m - t - 1) + n / 2 ^ t := by
      have h1 : 2 ^ m = 2 ^ t * (2 * 2 ^ (m - t - 1)) := by
        rw [← Nat.pow_succ', ← Nat.pow_add]
        congr 1; omega
      rw [h1, Nat.mul_add_div (Nat.pow_pos (by omega))]
    have hp : 2 ^ (m - t) = 2 * 2 ^ (m - t - 1) := by rw [← Nat.pow_succ']; congr 1; omega
    have h1 : cnt (2 ^ m + c) t = 2 ^ (m - t) + cnt c t := cnt_add_pow m t c (by omega)
    rw [hd, h1, hp]
    unfold stepL
    rw [bes_add]
    by_cases h : bes (n / 2 ^ t) < cnt c t
    · rw [if_pos (by omega), if_pos h]
      rw [show (2 * 2 ^ (m - t - 1) + n / 2 ^ t) % 2 = n / 2 ^ t % 2 by omega]
    · rw [if_neg (by omega), if_neg h]

theorem cnt_small (m c : Nat) (h : c ≤ 2 ^ m) : cnt c m ≤ 1 := by
  have := cnt_mono c (2 ^ m) m h
  rw [cnt_pow m m (Nat.le_refl _)] at this
  simpa using this

theorem cnt_two (m c : Nat) (h0 : 2 ^ m < c) (h1 : c ≤ 2 ^ (m + 1)) : cnt c m = 2 := by
  obtain ⟨e, rfl⟩ : ∃ e, c = 2 ^ m + e := ⟨c - 2 ^ m, by omega⟩
  rw [cnt_add_pow m m e (Nat.le_refl _), Nat.sub_self]
  have h2 := cnt_small m e (by rw [Nat.pow_succ] at h1; omega)
  have h3 := cnt_pos e m (by omega)
  rw [show (2 : Nat) ^ 0 = 1 from rfl]
  omega

theorem take_last (hs : List α) (s : Nat) (h : s < hs.length) : (hs.take (1 + s)).length - 1 = s ∧ (hs.take (1 + s)).take s = hs.take s ∧ (hs.take (1 + s)).getD s d = (hs.drop s).headD d ∧ (hs.drop s).tail = hs.drop (1 + s) := by
  refine ⟨by rw [List.length_take]; omega, by rw [List.take_take]; congr 1; omega, ?_, by rw [List.tail_drop]; congr 1; omega⟩
  rw [List.getD_eq_getElem?_getD, List.getElem?_take, if_pos (by omega), List.getElem?_eq_getElem h, List.drop_eq_getElem_cons h]
  rfl

theorem accL_lead (m n c : Nat) (a : α) (hs : List α) (hn : n < c) (hc : c ≤ 2 ^ m) (hl : sizeM m n c ≤ hs.length) : accL K d n c a hs m = (leadM K d m n c a (hs.take (sizeM m n c)), hs.drop (sizeM m n c)) := by
  induction m generalizing n c with
  | zero => simp [accL, leadM, sizeM]
  | succ m ih =>
    have hp : 2 ^ (m + 1) = 2 ^ m * 2 := Nat.pow_succ _ _
    rw [leadM, sizeM]
    rw [sizeM] at hl
    by_cases h : c ≤ 2 ^ m
    · rw [if_pos h] at hl
      rw [if_pos h, if_pos h, ← ih n c hn h hl]
      exact accL_stop K d n c a hs m hn (cnt_small m c h) (m + 1) (by omega)
    · rw [if_neg h] at hl
      rw [if_neg h, if_neg h, accL, cnt_two m c (by omega) hc]
      obtain ⟨e, rfl⟩ : ∃ e, c = 2 ^ m + e := ⟨c - 2 ^ m, by omega⟩
      by_cases hk : n < 2 ^ m
      · rw [if_pos hk] at hl
        rw [if_pos hk, if_pos hk, accL_left K d m n e a hs hk m (Nat.le_refl _), ih n (2 ^ m) hk (Nat.le_refl _) (by omega), Nat.div_eq_of_lt hk]
        obtain ⟨t1, t2, t3, t4⟩ := take_last d hs (sizeM m n (2 ^ m)) (by omega)
        rw [t1, t2, t3, ← t4]
        rfl
      · rw [if_neg hk] at hl
        obtain ⟨f, rfl⟩ : ∃ f, n = 2 ^ m + f := ⟨n - 2 ^ m, by omega⟩
        have hpos : 0 < 2 ^ m := Nat.pow_pos (by omega)
        have h0 : (2 ^ m + f) / 2 ^ m = 1 := by apply Nat.div_eq_of_lt_le <;> omega
        simp only [Nat.add_sub_cancel_left] at hl ⊢
        rw [if_neg hk, if_neg hk, accL_right K d m f e a hs m (Nat.le_refl _), ih f e (by omega) (by omega) (by omega), h0]
        obtain ⟨t1, t2, t3, t4⟩ := take_last d hs (sizeM m f e) (by omega)
        rw [t1, t2, t3, ← t4]
        rfl

theorem accL_end (t m n c : Nat) (a : α) (hs : List α) (hn : n < c) (hc : c ≤ 2 ^ m) (hl : hs.length = sizeM m n c) (h1 : cnt c t ≤ 1) : (accL K d n c a hs t).1 = leadM K d m n c a hs := by
  have h2 := accL_lead K d m n c a hs hn hc (by omega)
  rw [List.take_of_length_le (by omega)] at h2
  have h3 : accL K d n c a hs t = accL K d n c a hs m := by
    rcases Nat.le_total t m with h | h
    · exact (accL_stop K d n c a hs t hn h1 m h).symm
    · exact accL_stop K d n c a hs m hn (cnt_small m c hc) t h
  rw [h3, h2]

theorem accL_rest (n c : Nat) (a : α) (hs : List α) (t : Nat) : (accL K d n c a hs t).2 = hs.drop (accS n c t) := by
  induction t with
  | zero => rfl
  | succ t ih =>
    rw [accL, accS]
    unfold stepL
    by_cases h : bes (n / 2 ^ t) < cnt c t
    · rw [if_pos h, if_pos h]
      show (accL K d n c a hs t).2.tail = _
      rw [ih, List.tail_drop]
    · rw [if_neg h, if_neg h, ih]; rfl

theorem accS_mono (n c t u : Nat) (h : t ≤ u) : accS n c t ≤ accS n c u := by
  obtain ⟨e, rfl⟩ : ∃ e, u = t + e := ⟨u - t, by omega⟩
  clear h
  induction e with
  | zero => exact Nat.le_refl _
  | succ e ih =>
    rw [show t + (e + 1) = (t + e) + 1 by omega, accS]
    omega

/-- Where a row still has a neighbour, hashes are left. -/
theorem accS_lt (t m n c : Nat) (hn : n < c) (hc : c ≤ 2 ^ m) (h : bes (n / 2 ^ t) < cnt c t) : accS n c t < sizeM m n c := by
  have h1 : accS n c (t + 1) = accS n c t + 1 := by rw [accS, if_pos h]
  have ht : t < m := by
    rcases Nat.lt_or_ge t m with h2 | h2
    · exact h2
    · exfalso
      have h3 := cnt_small m c hc
      obtain ⟨e, rfl⟩ : ∃ e, t = m + e := ⟨t - m, by omega⟩
      have h4 : ∀ e, cnt c (m + e) ≤ 1 := by
        intro e
        induction e with
        | zero => exact h3
        | succ e ih => show (cnt c (m + e) + 1) / 2 ≤ 1; omega
      have h5 := cnt_div n c (m + e) hn
      have h6 := h4 e
      have h7 : n / 2 ^ (m + e) = 0 := Nat.lt_one_iff.1 (Nat.lt_of_lt_of_le h5 h6)
      rw [h7, show bes 0 = 1 from rfl] at h
      omega
  have h2 := accS_mono n c (t + 1) m (by omega)
  have h3 := accS_end m m n c hn hc (cnt_small m c hc)
  omega

/-- A path of its own place leads to the root. -/
theorem lead_path (m n : Nat) (l : List α) (hn : n < l.length) (hl : l.length ≤ 2 ^ m) : leadM K d m n l.length (l.getD n d) (pathM K d m n l) = leftM K d m l := by
  induction m generalizing n l with
  | zero =>
    obtain ⟨x, rfl⟩ := List.length_eq_one_iff.1 (show l.length = 1 by simp at hl; omega)
    simp at hn; subst hn
    rfl
  | succ m ih =>
    have hp : 2 ^ (m + 1) = 2 ^ m * 2 := Nat.pow_succ _ _
    rw [leadM, pathM, leftM]
    by_cases h : l.length ≤ 2 ^ m
    · rw [if_pos h, if_pos h, if_pos h, ih n l hn h]
    · rw [if_neg h, if_neg h, if_neg h]
      have l1 : (l.take (2 ^ m)).length = 2 ^ m := by rw [List.length_take]; omega
      have l2 : (l.drop (2 ^ m)).length = l.length - 2 ^ m := List.length_drop
      by_cases hk : n < 2 ^ m
      · rw [if_pos hk, if_pos hk]
        have h1 := ih n (l.take (2 ^ m)) (by omega) (by omega)
        rw [l1] at h1
        simp only [List.length_append, List.length_cons, List.length_nil, Nat.zero_add, Nat.add_sub_cancel, List.take_left']
        rw [← h1]
        congr 1
        · congr 1
          simp [List.getD_eq_getElem?_getD, hk]
        · simp [List.getD_eq_getElem?_getD]
      · rw [if_neg hk, if_neg hk]
        have h1 := ih (n - 2 ^ m) (l.drop (2 ^ m)) (by omega) (by omega)
        rw [l2] at h1
        simp only [List.length_append, List.length_cons, List.length_nil, Nat.zero_add, Nat.add_sub_cancel]
        rw [← h1]
        congr 1
        · simp [List.getD_eq_getElem?_getD]
        · congr 1
          · simp only [List.getD_eq_getElem?_getD, List.getElem?_drop]; congr 2; omega
          · simp
end
end Go.Proofs.Ytbbbgpdhdlknjaa
