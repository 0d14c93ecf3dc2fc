/- Transactions and blocks: their data, and how they lie in memory. -/
import Derived.Test.YtkbahhnjoidhcaaG4
namespace Go.Proofs.Ytkbahhnjoidhcaa
set_option linter.unusedVariables false
set_option linter.unusedSimpArgs false
open Go.RowKit

/-- Cells of elements of one size, one behind the other. -/
theorem flat_length {α : Type} (f : α → List Value) (s : Nat) (l : List α) (hf : ∀ x ∈ l, (f x).length = s) : (l.flatMap f).length = l.length * s := by
  induction l with
  | nil => simp
  | cons x l ih =>
    rw [List.flatMap_cons, List.length_append, hf x (by simp), ih (fun y hy => hf y (by simp [hy])), List.length_cons, Nat.add_mul, Nat.one_mul, Nat.add_comm]

theorem flat_get {α : Type} (f : α → List Value) (s : Nat) (l : List α) (hf : ∀ x ∈ l, (f x).length = s) {i : Nat} {x : α} (hi : l[i]? = some x) (j : Nat) (u : Value) (hj : (f x)[j]? = some u) : (l.flatMap f)[i * s + j]? = some u := by
  induction l generalizing i with
  | nil => simp at hi
  | cons y l ih =>
    have hy := hf y (by simp)
    rw [List.flatMap_cons]
    rcases i with _ | i
    · simp at hi; subst hi
      rw [Nat.zero_mul, Nat.zero_add, List.getElem?_append_left (List.getElem?_eq_some_iff.1 hj).1]
      exact hj
    · rw [List.getElem?_cons_succ] at hi
      rw [List.getElem?_append_right (by rw [hy, Nat.add_mul]; omega), hy]
      have := ih (fun z hz => hf z (by simp [hz])) hi
      rw [← this]
      congr 1
      rw [Nat.add_mul]
      omega

/-- A slice that reads cells, its block such as F says. -/
def RdF (F : Nat → Prop) (w : World) (size : Nat) (v : Value) (n : Nat) (cs : List Value) : Prop := Rd w size v n cs ∧ ∀ k, v.ownBlock = some k → F k

/-- The blocks of which F speaks are as they were. -/
def Kp (F : Nat → Prop) (w w' : World) : Prop := ∀ k, k < w.heap.size → F k → w'.heap[k]? = w.heap[k]?

theorem Kp.below {w w' : World} {F : Nat → Prop} (hb : Below w.heap.size w w') : Kp F w w' := fun k hk _ => hb.block k hk
theorem Kp.tr {w w' w'' : World} {F : Nat → Prop} (h : Kp F w w') (h' : Kp F w' w'') (hs : w.heap.size ≤ w'.heap.size) : Kp F w w'' := fun k hk hF => (h' k (by omega) hF).trans (h k hk hF)

theorem RdF.kept {F : Nat → Prop} {w w' : World} {size : Nat} {v : Value} {n : Nat} {cs : List Value} (h : RdF F w size v n cs) (hk : Kp F w w') : RdF F w' size v n cs :=
  ⟨h.1.kept fun k hk' hv => hk k hk' (h.2 k hv), h.2⟩
theorem RdF.fresh {F : Nat → Prop} {w w' : World} {size : Nat} {v : Value} {n : Nat} {cs : List Value} (h : RdF F w size v n cs) (hb : Below w.heap.size w w') : RdF F w' size v n cs := h.kept (Kp.below hb)
theorem RdF.mono {F G : Nat → Prop} {w : World} {size : Nat} {v : Value} {n : Nat} {cs : List Value} (h : RdF F w size v n cs) (hG : ∀ k, F k → G k) : RdF G w size v n cs := ⟨h.1, fun k hk => hG k (h.2 k hk)⟩

/-- An input, an output, a transaction, a header, a block. -/
structure InD where
  id : Bs
  n : Int
  wit : Bs
structure OutD where
  amt : Int
  lock : Bs
structure TxD where
  ins : List InD
  outs : List OutD
  nonce : Int
structure HdD where
  par : List Bs
  root : Bs
  acc : Bs
  coins : Bs
  miner : Bs
  nonce : Int
structure BlD where
  hd : HdD
  txs : List TxD

instance : DecidableEq InD := fun a b => decidable_of_iff (a.id = b.id ∧ a.n = b.n ∧ a.wit = b.wit) (by cases a; cases b; simp)
instance : DecidableEq OutD := fun a b => decidable_of_iff (a.amt = b.amt ∧ a.lock = b.lock) (by cases a; cases b; simp)
instance : DecidableEq TxD := fun a b => decidable_of_iff (a.ins = b.ins ∧ a.outs = b.outs ∧ a.nonce = b.nonce) (by cases a; cases b; simp)
instance : DecidableEq HdD := fun a b => decidable_of_iff (a.par = b.par ∧ a.root = b.root ∧ a.acc = b.acc ∧ a.coins = b.coins ∧ a.miner = b.miner ∧ a.nonce = b.nonce) (by cases a; cases b; simp)
instance : DecidableEq BlD := fun a b => decidable_of_iff (a.hd = b.hd ∧ a.txs = b.txs) (by cases a; cases b; simp)

def inC (x : InD × Value) : List Value := bvs x.1.id ++ [.int .u32 x.1.n, x.2]
def outC (x : OutD) : List Value := .int .u64 x.amt :: bvs x.lock
def txC (x : TxD × Value × Value) : List Value := [x.2.1, x.2.2, .int .u64 x.1.nonce]

def InOk (x : InD) : Prop := x.id.length = 32
def OutOk (x : OutD) : Prop := x.lock.length = 32

theorem inC_length {x : InD × Value} (h : InOk x.1) : (inC x).length = 34 := by
  unfold InOk at h
  simp [inC, h]
theorem outC_length {x : OutD} (h : OutOk x) : (outC x).length = 33 := by
  unfold OutOk at h
  simp [outC, h]
theorem txC_length (x : TxD × Value × Value) : (txC x).length = 3 := rfl

/-- A slice of inputs. -/
def Ins (F : Nat → Prop) (w : World) (v : Value) (l : List InD) : Prop :=
  ∃ us : List Value, us.length = l.length ∧ (∀ x ∈ l, InOk x) ∧ RdF F w 34 v l.length ((l.zip us).flatMap inC) ∧ ∀ (i : Nat) (x : InD) (u : Value), l[i]? = some x → us[i]? = some u → RdF F w 1 u x.wit.length (bvs x.wit)

/-- A slice of outputs. -/
def Outs (F : Nat → Prop) (w : World) (v : Value) (l : List OutD) : Prop := (∀ x ∈ l, OutOk x) ∧ RdF F w 33 v l.length (l.flatMap outC)

/-- A slice of transactions. -/
def Txs (F : Nat → Prop) (w : World) (v : Value) (l : List TxD) : Prop :=
  ∃ us : List (Value × Value), us.length = l.length ∧ RdF F w 3 v l.length ((l.zip us).flatMap txC) ∧ ∀ (i : Nat) (x : TxD) (u : Value × Value), l[i]? = some x → us[i]? = some u → Ins F w u.1 x.ins ∧ Outs F w u.2 x.outs

/-- A slice of hashes, its block such as F says. -/
def HsF (F : Nat → Prop) (w : World) (v : Value) (l : List Bs) : Prop := H32 l ∧ RdF F w 32 v l.length (bvs l.flatten)

theorem Ins.kept {F : Nat → Prop} {w w' : World} {v : Value} {l : List InD} (h : Ins F w v l) (hk : Kp F w w') : Ins F w' v l := by
  obtain ⟨us, h1, h2, h3, h4⟩ := h
  exact ⟨us, h1, h2, h3.kept hk, fun i x u hx hu => (h4 i x u hx hu).kept hk⟩
theorem Outs.kept {F : Nat → Prop} {w w' : World} {v : Value} {l : List OutD} (h : Outs F w v l) (hk : Kp F w w') : Outs F w' v l := ⟨h.1, h.2.kept hk⟩
theorem Txs.kept {F : Nat → Prop} {w w' : World} {v : Value} {l : List TxD} (h : Txs F w v l) (hk : Kp F w w') : Txs F w' v l := by
  obtain ⟨us, h1, h2, h3⟩ := h
  exact ⟨us, h1, h2.kept hk, fun i x u hx hu => ⟨(h3 i x u hx hu).1.kept hk, (h3 i x u hx hu).2.kept hk⟩⟩
theorem HsF.kept {F : Nat → Prop} {w w' : World} {v : Value} {l : List Bs} (h : HsF F w v l) (hk : Kp F w w') : HsF F w' v l := ⟨h.1, h.2.kept hk⟩
theorem Ins.mono {F G : Nat → Prop} {w : World} {v : Value} {l : List InD} (h : Ins F w v l) (hG : ∀ k, F k → G k) : Ins G w v l := by
  obtain ⟨us, h1, h2, h3, h4⟩ := h
  exact ⟨us, h1, h2, h3.mono hG, fun i x u hx hu => (h4 i x u hx hu).mono hG⟩
theorem Outs.mono {F G : Nat → Prop} {w : World} {v : Value} {l : List OutD} (h : Outs F w v l) (hG : ∀ k, F k → G k) : Outs G w v l := ⟨h.1, h.2.mono hG⟩
theorem Txs.mono {F G : Nat → Prop} {w : World} {v : Value} {l : List TxD} (h : Txs F w v l) (hG : ∀ k, F k → G k) : Txs G w v l := by
  obtain ⟨us, h1, h2, h3⟩ := h
  exact ⟨us, h1, h2.mono hG, fun i x u hx hu => ⟨(h3 i x u hx hu).1.mono hG, (h3 i x u hx hu).2.mono hG⟩⟩
theorem HsF.mono {F G : Nat → Prop} {w : World} {v : Value} {l : List Bs} (h : HsF F w v l) (hG : ∀ k, F k → G k) : HsF G w v l := ⟨h.1, h.2.mono hG⟩
theorem HsF.hs {F : Nat → Prop} {w : World} {v : Value} {l : List Bs} (h : HsF F w v l) : Hs w v l := ⟨h.1, h.2.1⟩
theorem Ins.fresh {F : Nat → Prop} {w w' : World} {v : Value} {l : List InD} (h : Ins F w v l) (hb : Below w.heap.size w w') : Ins F w' v l := h.kept (Kp.below hb)
theorem Outs.fresh {F : Nat → Prop} {w w' : World} {v : Value} {l : List OutD} (h : Outs F w v l) (hb : Below w.heap.size w w') : Outs F w' v l := h.kept (Kp.below hb)
theorem Txs.fresh {F : Nat → Prop} {w w' : World} {v : Value} {l : List TxD} (h : Txs F w v l) (hb : Below w.heap.size w w') : Txs F w' v l := h.kept (Kp.below hb)
theorem HsF.fresh {F : Nat → Prop} {w w' : World} {v : Value} {l : List Bs} (h : HsF F w v l) (hb : Below w.heap.size w w') : HsF F w' v l := h.kept (Kp.below hb)

theorem Ins.slice {F : Nat → Prop} {w : World} {v : Value} {l : List InD} (h : Ins F w v l) : ∃ a c, v = .slice a l.length c := by
  obtain ⟨us, h1, h2, h3, h4⟩ := h
  exact h3.1.slice
theorem Outs.slice {F : Nat → Prop} {w : World} {v : Value} {l : List OutD} (h : Outs F w v l) : ∃ a c, v = .slice a l.length c := h.2.1.slice
theorem Txs.slice {F : Nat → Prop} {w : World} {v : Value} {l : List TxD} (h : Txs F w v l) : ∃ a c, v = .slice a l.length c := by
  obtain ⟨us, h1, h2, h3⟩ := h
  exact h2.1.slice
theorem HsF.slice {F : Nat → Prop} {w : World} {v : Value} {l : List Bs} (h : HsF F w v l) : ∃ a c, v = .slice a l.length c := h.2.1.slice

/-- An element's cells, at its place. -/
theorem Rd.at {α : Type} {w : World} {ad : Addr} {n c s : Nat} {f : α → List Value} {l : List α} (h : Rd w s (.slice (some ad) n c) n (l.flatMap f)) (hf : ∀ x ∈ l, (f x).length = s) {i : Nat} {x : α} (hi : l[i]? = some x) :
    ∀ j u, (f x)[j]? = some u → w.cell? ((ad.add (i * s)).add j) = some u := by
  intro j u hj
  rcases h.2 with ⟨he, _⟩ | ⟨ad', c', he, _, _, hc⟩
  · cases he
  · simp only [Value.slice.injEq, Option.some.injEq] at he
    obtain ⟨rfl, _, _⟩ := he
    rw [add_add_addr]
    exact hc _ u (flat_get f s l hf hi j u hj)

end Go.Proofs.Ytkbahhnjoidhcaa
