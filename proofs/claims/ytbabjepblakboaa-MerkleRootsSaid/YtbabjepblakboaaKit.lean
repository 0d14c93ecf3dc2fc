/- Words and laws over any program: what a slice value reads in memory, and append of whatever source. -/
import Derived.WalkKit
import Derived.WalkSpells
import Derived.OneCell
import Derived.Lib.Hide
import Derived.WalkSmall
import Derived.Laws.AppendOwnNone
namespace Go.Proofs.Ytbabjepblakboaa
set_option linter.unusedVariables false
set_option linter.unusedSimpArgs false
open Go.RowKit

/-- A byte as a cell. -/
def bv (x : UInt8) : Value := .int .u8 (x.toNat : Int)
/-- Bytes as cells. -/
def bvs (l : List UInt8) : List Value := l.map bv

@[simp] theorem bvs_length (l : List UInt8) : (bvs l).length = l.length := by simp [bvs]
@[simp] theorem bvs_append (a b : List UInt8) : bvs (a ++ b) = bvs a ++ bvs b := by simp [bvs]

/-- The slice value v of n elements (size cells each) reads the cells cs. -/
def Rd (w : World) (size : Nat) (v : Value) (n : Nat) (cs : List Value) : Prop :=
  cs.length = n * size ∧ ((v = .slice none 0 0 ∧ n = 0) ∨ ∃ ad c, v = .slice (some ad) n c ∧ n ≤ c ∧ c ≤ maxLen ∧ ∀ j u, cs[j]? = some u → w.cell? (ad.add j) = some u)

theorem Rd.nil (w : World) (size : Nat) : Rd w size (.slice none 0 0) 0 [] := ⟨by simp, .inl ⟨rfl, rfl⟩⟩

theorem Rd.of_own {w : World} {base : Nat} {e : TypeId} {size : Nat} {v : Value} {n : Nat} {xs : List Value} (h : w.ownsRow base e size v n xs) : Rd w size v n xs := by
  refine ⟨h.1, ?_⟩
  rcases h.2 with h2 | ⟨g, cap, cur, hv, hg, hh, hn, hc, hs, ht⟩
  · exact .inl h2
  · exact .inr ⟨⟨g, 0, none⟩, cap, hv, hn, hc, h.cells (g := g) (by simp [hv, Value.ownBlock])⟩

/-- A goal at which the walk stands still. -/
def Stop (p : Prop) : Prop := p
theorem Stop.mk {p : Prop} (h : Stop p) : p := h
theorem Stop.go {p : Prop} (h : p) : Stop p := h

theorem Addr.add_block (ad : Addr) (j : Nat) : (ad.add j).block = ad.block := by unfold Addr.add; split <;> rfl

theorem Rd.kept {w w' : World} {size : Nat} {v : Value} {n : Nat} {cs : List Value} (h : Rd w size v n cs)
    (hk : ∀ k, k < w.heap.size → v.ownBlock = some k → w'.heap[k]? = w.heap[k]?) : Rd w' size v n cs := by
  refine ⟨h.1, ?_⟩
  rcases h.2 with h2 | ⟨ad, c, hv, hn, hc, hcell⟩
  · exact .inl h2
  · refine .inr ⟨ad, c, hv, hn, hc, fun j u hj => ?_⟩
    have h0 := hcell j u hj
    have hlt := block_lt_of_cell h0
    rw [World.cell?_of_block (w := w)]
    · exact h0
    · rw [Addr.add_block] at hlt ⊢
      exact hk _ hlt (by simp [hv, Value.ownBlock])

theorem Rd.fresh {w w' : World} {size : Nat} {v : Value} {n : Nat} {cs : List Value} (h : Rd w size v n cs) (hb : Below w.heap.size w w') : Rd w' size v n cs :=
  h.kept fun k hk _ => hb.block k hk

theorem Rd.setCell {w : World} {size : Nat} {v : Value} {n : Nat} {cs : List Value} (h : Rd w size v n cs) {a : Addr} (ha : v.ownBlock ≠ some a.block) (u : Value) : Rd (w.setCell a u) size v n cs :=
  h.kept fun k _ hv => heap_setCell_other _ _ _ _ (fun e => ha (by rw [hv, e]))

theorem own_ne {w : World} {base : Nat} {e T : TypeId} {size b : Nat} {v : Value} {n : Nat} {xs : List Value} {cs : Array Value} {fz : Nat × Nat}
    (h : w.ownsRow base e size v n xs) (hb : w.heap[b]? = some (.cells cs T fz)) (hT : T ≠ e) : v.ownBlock ≠ some b := by
  intro e1
  rcases h.2 with ⟨rfl, _⟩ | ⟨g, cap, cur, rfl, _, hg, _⟩
  · simp [Value.ownBlock] at e1
  · simp [Value.ownBlock] at e1
    subst e1
    rw [hb] at hg
    simp at hg
    exact hT hg.2.1

theorem own_slice {w : World} {base : Nat} {e : TypeId} {size : Nat} {v : Value} {n : Nat} {xs : List Value}
    (h : w.ownsRow base e size v n xs) : ∃ a c, v = .slice a n c := by
  rcases h.2 with ⟨rfl, rfl⟩ | ⟨g, cap, cur, rfl, _⟩
  · exact ⟨_, _, rfl⟩
  · exact ⟨_, _, rfl⟩

theorem Rd.slice {w : World} {size : Nat} {v : Value} {n : Nat} {xs : List Value}
    (h : Rd w size v n xs) : ∃ a c, v = .slice a n c := by
  rcases h.2 with ⟨rfl, rfl⟩ | ⟨ad, cap, rfl, _⟩
  · exact ⟨_, _, rfl⟩
  · exact ⟨_, _, rfl⟩

/-- A store into a block that holds no byte at all leaves what reads as bytes. -/
theorem Rd.setOff {w : World} {v : Value} {n b : Nat} {ys : List UInt8} (h : Rd w 1 v n (bvs ys)) {cs : Array Value} {T : TypeId} {fz : Nat × Nat}
    (hb : w.heap[b]? = some (.cells cs T fz)) (hcs : ∀ (i : Nat) (x : Int), cs[i]? ≠ some (Value.int .u8 x)) {a : Addr} (ha : a.block = b) (u : Value) : Rd (w.setCell a u) 1 v n (bvs ys) := by
  refine ⟨h.1, ?_⟩
  rcases h.2 with h2 | ⟨ad, c, hv, hn, hc, hcell⟩
  · exact .inl h2
  · refine .inr ⟨ad, c, hv, hn, hc, fun j x hj => ?_⟩
    have h0 := hcell j x hj
    by_cases e : ad.block = b
    · exfalso
      obtain ⟨y, hy⟩ : ∃ y : Int, x = .int .u8 y := by
        simp only [bvs, List.getElem?_map, Option.map_eq_some_iff] at hj
        obtain ⟨z, _, rfl⟩ := hj
        exact ⟨_, rfl⟩
      subst hy
      simp only [World.cell?, Addr.add_block, e, hb] at h0
      split at h0
      · simp at h0
      · exact hcs _ _ h0
    · rw [World.cell?_of_block (w := w)]
      · exact h0
      · rw [Addr.add_block]
        exact heap_setCell_other _ _ _ _ (by rw [ha]; exact e)

theorem own_fresh {w w' : World} {base : Nat} {e : TypeId} {size : Nat} {v : Value} {n : Nat} {xs : List Value}
    (h : w.ownsRow base e size v n xs) (hb : Below w.heap.size w w') : w'.ownsRow base e size v n xs :=
  h.kept (row := none) ⟨hb.os, hb.tape, hb.output, hb.size, fun k hk _ => hb.block k hk⟩ (by
    by_cases e : v.ownBlock = none
    · exact .inl e
    · exact .inr e)

/-- What is owned below B stays owned where nothing below B turns. -/
theorem own_below {w w' : World} {B base : Nat} {e : TypeId} {size : Nat} {v : Value} {n : Nat} {xs : List Value}
    (h : w.ownsRow base e size v n xs) (hb : Below B w w') (hu : ∀ k, v.ownBlock = some k → k < B) : w'.ownsRow base e size v n xs := by
  refine ⟨h.1, ?_⟩
  rcases h.2 with h2 | ⟨g, cap, cur, hv, hg, hh, r⟩
  · exact .inl h2
  · exact .inr ⟨g, cap, cur, hv, hg, by rw [hb.block g (hu g (by simp [hv, Value.ownBlock]))]; exact hh, r⟩

theorem add_add_addr (a : Addr) (i j : Nat) : (a.add i).add j = a.add (i + j) := by
  unfold Addr.add
  by_cases hi : i = 0 <;> by_cases hj : j = 0 <;> simp [hi, hj, Nat.add_assoc]

theorem Rd.take {w : World} {ad : Addr} {len c : Nat} {l : List UInt8} (h : Rd w 1 (.slice (some ad) len c) len (bvs l)) (n c' : Nat) (hn : n ≤ len) (hc : n ≤ c') (hm : c' ≤ maxLen) :
    Rd w 1 (.slice (some ad) n c') n (bvs (l.take n)) := by
  have hl : l.length = len := by simpa using h.1
  rcases h.2 with ⟨e, _⟩ | ⟨ad', c0, e, _, _, hcell⟩
  · simp at e
  · simp at e; obtain ⟨rfl, rfl⟩ := e
    refine ⟨by simp; omega, .inr ⟨ad, c', rfl, hc, hm, fun j u hj => hcell j u ?_⟩⟩
    simp only [bvs, List.map_take, List.getElem?_take] at hj ⊢
    split at hj
    · exact hj
    · cases hj

theorem Rd.drop {w : World} {ad : Addr} {len c : Nat} {l : List UInt8} (h : Rd w 1 (.slice (some ad) len c) len (bvs l)) (n c' : Nat) (hn : n ≤ len) (hc : len - n ≤ c') (hm : c' ≤ maxLen) :
    Rd w 1 (.slice (some (ad.add n)) (len - n) c') (len - n) (bvs (l.drop n)) := by
  have hl : l.length = len := by simpa using h.1
  rcases h.2 with ⟨e, _⟩ | ⟨ad', c0, e, _, _, hcell⟩
  · simp at e
  · simp at e; obtain ⟨rfl, rfl⟩ := e
    refine ⟨by simp; omega, .inr ⟨ad.add n, c', rfl, hc, hm, fun j u hj => ?_⟩⟩
    rw [add_add_addr]
    refine hcell (n + j) u ?_
    simpa [bvs, List.getElem?_drop] using hj

theorem grown_fresh {w w' : World} {row : Option Nat} (h : Below w.heap.size w w') : w.grownBy w' row := ⟨h.os, h.tape, h.output, h.size, fun k hk _ => h.block k hk⟩

theorem grown_trans {u v w : World} {row : Option Nat} (h : u.grownBy v row) (g : v.grownBy w row) : u.grownBy w row :=
  ⟨g.os.trans h.os, g.tape.trans h.tape, g.output.trans h.output, Nat.le_trans h.size g.size, fun k hk hne => (g.block k (Nat.lt_of_lt_of_le hk h.size) hne).trans (h.block k hk hne)⟩

theorem grown_below {w w' : World} {r B : Nat} (h : w.grownBy w' (some r)) (hB : B ≤ r) (hs : B ≤ w.heap.size) : Below B w w' :=
  ⟨h.os, h.tape, h.output, h.size, fun k hk => h.block k (by omega) (fun e => by cases e; omega)⟩

/-- The value's block stands below B. -/
def Under (B : Nat) (v : Value) : Prop := ∀ k, v.ownBlock = some k → k < B

theorem Rd.under {w w' : World} {size B : Nat} {v : Value} {n : Nat} {cs : List Value} (h : Rd w size v n cs) (hu : Under B v) (hb : Below B w w') : Rd w' size v n cs :=
  h.kept fun k _ hv => hb.block k (hu k hv)

theorem Below.drewl {B : Nat} {w w' : World} (h : Below B w w') : Below B w w'.drew := h.drew

/-- The slice value is nil, or of the old row, or of a row that is new since w. -/
def Grew (w : World) (v v' : Value) : Prop := ∀ k, v'.ownBlock = some k → v.ownBlock = some k ∨ w.heap.size ≤ k

theorem run_append_rd {P : Program} (w : World) (base : Nat) (t ty e : TypeId) (i : TypeInfo) (z : Value) (size bytes : Nat) (ht : P.underlying t = some (.slice e)) (hi : P.info? e = some i) (hz : i.zero = some z)
    (hsize : i.size = size) (hby : i.bytes = bytes) (hzs : z.cells.size = size) (hsz : 0 < size)
    (v : Value) (n : Nat) (xs : List Value) (hown : w.ownsRow base e size v n xs)
    (v2 : Value) (m : Nat) (news : List Value) (hrd : Rd w size v2 m news) (h1 : ∀ u ∈ news, u.oneCell' = true)
    (h63 : n + m ≤ maxLen) (hbytes : (n + m) * bytes ≤ 140737488355328) (hbase : base ≤ w.heap.size) :
    ∃ v' w', (Builtin.append_ #[t, t] ty #[v, v2]).run P w = .ok v' w' ∧ w'.ownsRow base e size v' (n + m) (xs ++ news) ∧ w.grownBy w' v.ownBlock ∧
      (v' = .slice none 0 0 ↔ v = .slice none 0 0 ∧ m = 0) ∧ Grew w v v' := by
  obtain ⟨hl, h2⟩ := hrd
  rcases h2 with ⟨rfl, rfl⟩ | ⟨ad, c, rfl, hmc, hc, hcell⟩
  · have hn : news = [] := List.eq_nil_of_length_eq_zero (by simpa using hl)
    subst hn
    refine ⟨v, w, run_append_owned_none (P := P) (w := w) base t ty e i size ht hi v n xs hown, by simpa using hown, World.grownBy.refl _ _, ?_, fun k hk => .inl hk⟩
    rcases hown.2 with ⟨e1, _⟩ | ⟨g, cap, cur, e1, _⟩ <;> simp [e1]
  · obtain ⟨v', w', hr, r1, r2, r3⟩ := run_append_own (P := P) w base t ty e i z size bytes ht hi hz hsize hby hzs hsz v n xs hown ad m c news hl hcell h1 h63 hbytes hbase
    refine ⟨v', w', hr, r1, r2, r3, ?_⟩
    intro k hk
    by_cases hm : v' = .slice none 0 0
    · subst hm; simp [Value.ownBlock] at hk
    subst hsize
    have hsmall : n + m ≤ 9223372036854775807 := by simp only [maxLen] at h63; omega
    rcases hown.2 with ⟨rfl, rfl⟩ | ⟨g, cap, cur, rfl, hbg, hg, hnc, hcm, hcs, htake⟩
    · have hmp : 0 < m := by
        rcases Nat.eq_zero_or_pos m with h0 | h0
        · exact absurd (r3.2 ⟨rfl, h0⟩) hm
        · exact h0
      have hr' := run_append_nil (P := P) w t ty e i z ht hi hz ad m c news hl hcell hmp (by omega) (by rw [hby]; have hb := hbytes; simp only [Nat.zero_add] at hb; omega)
      rw [hr'] at hr
      obtain ⟨rfl, _⟩ := Result.ok.inj hr
      simp [Value.ownBlock] at hk
      exact .inr (by omega)
    · by_cases hroom : n + m ≤ cap
      · have hfit : n * i.size + news.length ≤ cur.size := by rw [hl, hcs, ← Nat.add_mul]; exact Nat.mul_le_mul_right _ hroom
        have hr' := run_append_room (P := P) w t ty e i ht hi g n cap cur hg ad m c news hl hcell h1 hroom hfit
        rw [hr'] at hr
        obtain ⟨rfl, _⟩ := Result.ok.inj hr
        exact .inl hk
      · have holds : ∀ j u, xs[j]? = some u → w.cell? ((⟨g, 0, none⟩ : Addr).add j) = some u := hown.cells (g := g) rfl
        have hr' := run_append_grow (P := P) w t ty e i z ht hi hz ⟨g, 0, none⟩ n cap xs hown.1 holds ad m c news hl hcell (by omega) (by omega) (growslice_fits (by omega) (by rw [hby]; exact hbytes))
        rw [hr'] at hr
        obtain ⟨rfl, _⟩ := Result.ok.inj hr
        simp [Value.ownBlock] at hk
        exact .inr (by omega)

theorem wpList_append_rd {P : Program} (w : World) {ops : Array Oper} {rest : List Oper} {o : Oper} {a : Act} {Q : Exit → Act → World → Prop} (hgd : o.guard = none) (s x : Operand) (t : TypeId)
    (ho : o.op = .call { callee := .builtin .append, args := #[s, x], argTypes := #[t, t] })
    (base : Nat) (e : TypeId) (i : TypeInfo) (z : Value) (size bytes : Nat) (ht : P.underlying t = some (.slice e)) (hi : P.info? e = some i) (hz : i.zero = some z)
    (hsize : i.size = size) (hby : i.bytes = bytes) (hzs : z.cells.size = size) (hsz : 0 < size)
    (v : Value) (n : Nat) (xs : List Value) (hs : a.eval s = v) (hown : w.ownsRow base e size v n xs)
    (v2 : Value) (m : Nat) (news : List Value) (hx : a.eval x = v2) (hrd : Rd w size v2 m news) (h1 : ∀ u ∈ news, u.oneCell' = true)
    (h63 : n + m ≤ maxLen) (hbytes : (n + m) * bytes ≤ 140737488355328) (hbase : base ≤ w.heap.size)
    (h : ∀ v' w', w'.ownsRow base e size v' (n + m) (xs ++ news) → w.grownBy w' v.ownBlock → (v' = .slice none 0 0 ↔ v = .slice none 0 0 ∧ m = 0) → Grew w v v' → wpList P ops Q rest (a.put o.dst v') w') : wpList P ops Q (o :: rest) a w := by
  refine wpList_plain hgd fun K hK => ?_
  obtain ⟨v', w', hr, h2, h3, h4, h5⟩ := run_append_rd (P := P) w base t o.type e i z size bytes ht hi hz hsize hby hzs hsz v n xs hown v2 m news hrd h1 h63 hbytes hbase
  unfold Oper.wp execOp
  simp only [ho, resolve, invoke, builtin, Sem.run_bind, Sem.run_pure, Result.andThen_ok, List.map_toArray, List.map_cons, List.map_nil, hs, hx, hr]
  exact hK _ _ (h v' w' h2 h3 h4 h5)

theorem bvs_one (l : List UInt8) : ∀ u ∈ bvs l, u.oneCell' = true := by
  intro u hu
  simp only [bvs, List.mem_map] at hu
  obtain ⟨x, _, rfl⟩ := hu
  rfl


/-- Block g of the world is a row of these bytes (of elements of type e). -/
def BB (w : World) (e : TypeId) (g : Nat) (L : List UInt8) : Prop := w.heap[g]? = some (.cells (bvs L).toArray e (0, 0))

theorem BB.lt {w : World} {e : TypeId} {g : Nat} {L : List UInt8} (h : BB w e g L) : g < w.heap.size := lt_of_block h

theorem BB.cell {w : World} {e : TypeId} {g : Nat} {L : List UInt8} (h : BB w e g L) (k : Nat) (x : UInt8) (hx : L[k]? = some x) : w.cell? ⟨g, k, none⟩ = some (bv x) := by
  have h' : w.heap[g]? = _ := h
  simp [World.cell?, h', bvs, hx]

theorem BB.free {w : World} {e : TypeId} {g : Nat} {L : List UInt8} (h : BB w e g L) (k : Nat) : w.frozen? ⟨g, k, none⟩ = false := by
  have h' : w.heap[g]? = _ := h
  simp [World.frozen?, h']

theorem BB.set {w : World} {e : TypeId} {g : Nat} {L : List UInt8} (h : BB w e g L) (k : Nat) (x : UInt8) : BB (w.setCell ⟨g, k, none⟩ (bv x)) e g (L.set k x) := by
  have h' : w.heap[g]? = _ := h
  unfold BB
  rw [heap_setCell_same _ _ _ _ _ _ h']
  simp [bvs, List.map_set]

theorem BB.other {w : World} {e : TypeId} {g : Nat} {L : List UInt8} (h : BB w e g L) {a : Addr} (ha : a.block ≠ g) (v : Value) : BB (w.setCell a v) e g L := by
  unfold BB
  rw [heap_setCell_other _ _ _ _ (fun e => ha e.symm)]
  exact h

theorem BB.fresh {w w' : World} {e : TypeId} {g : Nat} {L : List UInt8} (h : BB w e g L) (hb : Below w.heap.size w w') : BB w' e g L := by
  unfold BB
  rw [hb.block g h.lt]
  exact h

theorem BB.below {w w' : World} {e : TypeId} {g B : Nat} {L : List UInt8} (h : BB w e g L) (hb : Below B w w') (hg : g < B) : BB w' e g L := by
  unfold BB
  rw [hb.block g hg]
  exact h

theorem BB.rd {w : World} {e : TypeId} {g : Nat} {L : List UInt8} (h : BB w e g L) (o n c : Nat) (hon : o + n ≤ L.length) (hn : n ≤ c) (hc : c ≤ maxLen) :
    Rd w 1 (.slice (some ⟨g, o, none⟩) n c) n (bvs ((L.drop o).take n)) := by
  refine ⟨by simp; omega, .inr ⟨_, _, rfl, hn, hc, fun j u hj => ?_⟩⟩
  have hj' : j < n := by
    have := (List.getElem?_eq_some_iff.1 hj).1
    simp at this; omega
  have e1 : (⟨g, o, none⟩ : Addr).add j = ⟨g, o + j, none⟩ := by
    unfold Addr.add; split <;> simp_all
  rw [e1, h.cell (o + j) (L[o + j]'(by omega)) (by simp)]
  have : (bvs ((L.drop o).take n))[j]? = some (bv (L[o + j]'(by omega))) := by
    simp [bvs, hj']
    exact ⟨_, by rw [List.getElem?_eq_getElem], rfl⟩
  rw [this] at hj
  exact hj

theorem BB.of_own {w : World} {base : Nat} {e : TypeId} {a : Option Addr} {n c : Nat} {L : List UInt8} (h : w.ownsRow base e 1 (.slice a n c) n (bvs L)) :
    (a = none ∧ n = 0 ∧ c = 0) ∨ ∃ g S, a = some ⟨g, 0, none⟩ ∧ base ≤ g ∧ w.heap[g]? = some (.cells S e (0, 0)) ∧ S.size = c ∧ n ≤ c ∧ c ≤ maxLen ∧ S.toList.take n = bvs L := by
  rcases h.2 with ⟨h1, h2⟩ | ⟨g, cap, cur, h1, h2, h3, h4, h5, h6, h7⟩
  · simp at h1; exact .inl ⟨h1.1, h2, h1.2.2⟩
  · simp at h1; obtain ⟨rfl, rfl⟩ := h1
    exact .inr ⟨g, cur, rfl, h2, h3, by simpa using h6, h4, h5, by simpa using h7⟩

theorem BB.full {w : World} {base : Nat} {e : TypeId} {g n : Nat} {L : List UInt8} (h : w.ownsRow base e 1 (.slice (some ⟨g, 0, none⟩) n n) n (bvs L)) : BB w e g L := by
  rcases BB.of_own h with ⟨h1, _⟩ | ⟨g', S, h1, _, h3, h4, h5, h6, h7⟩
  · simp at h1
  · simp at h1; subst h1
    have hS : S = (bvs L).toArray := by
      apply Array.ext'
      rw [← h7, List.take_of_length_le (by simp [h4])]
    subst hS
    exact h3

theorem BB.rdAll {w : World} {e : TypeId} {g : Nat} {L : List UInt8} (h : BB w e g L) (hl : L.length ≤ maxLen) :
    Rd w 1 (.slice (some ⟨g, 0, none⟩) L.length L.length) L.length (bvs L) := by
  have := h.rd 0 L.length L.length (by omega) (Nat.le_refl _) hl
  simpa using this

theorem BB.new (w : World) (e : TypeId) (L : List UInt8) : BB (w.alloc (.cells (bvs L).toArray e)) e w.heap.size L := heap_alloc_new w _

theorem bv_ofNat (x : Nat) : bv (UInt8.ofNat x) = .int .u8 ((x : Int) % 256) := by
  simp [bv, UInt8.toNat_ofNat']

/-- A number's bytes, the lowest first. -/
def le (m : Nat) : Nat → List UInt8
  | 0 => []
  | k + 1 => le m k ++ [UInt8.ofNat (m / 2 ^ (8 * k))]

@[simp] theorem le_length (m k : Nat) : (le m k).length = k := by induction k <;> simp [le, *]

theorem le_step (m k s : Nat) (h : k < s) : (le m k ++ List.replicate (s - k) 0).set k (UInt8.ofNat (m / 2 ^ (8 * k))) = le m (k + 1) ++ List.replicate (s - (k + 1)) 0 := by
  rw [List.set_append_right _ _ (by simp), le_length, Nat.sub_self, show s - k = (s - (k + 1)) + 1 by omega, List.replicate_succ]
  simp [le]

end Go.Proofs.Ytbabjepblakboaa
