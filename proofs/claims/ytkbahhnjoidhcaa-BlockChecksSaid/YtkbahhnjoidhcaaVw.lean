/- Numbers such as their types bear; a transaction's bytes. -/
import Derived.Test.YtkbahhnjoidhcaaXr
namespace Go.Proofs.Ytkbahhnjoidhcaa
set_option linter.unusedVariables false
set_option linter.unusedSimpArgs false
open Go.RowKit

/-- Numbers such as their types bear. -/
def InWf (x : InD) : Prop := 0 ≤ x.n ∧ x.n < 4294967296
def OutWf (x : OutD) : Prop := 0 ≤ x.amt ∧ x.amt < 18446744073709551616
def TxWf (x : TxD) : Prop := (∀ i ∈ x.ins, InWf i) ∧ (∀ o ∈ x.outs, OutWf o) ∧ 0 ≤ x.nonce ∧ x.nonce < 18446744073709551616
def TxSmall (B : Nat) (x : TxD) : Prop := x.ins.length ≤ B ∧ x.outs.length ≤ B ∧ ∀ i ∈ x.ins, i.wit.length ≤ B

def inpB (i : InD) : Bs := i.id ++ le i.n.toNat 4 ++ (le i.wit.length 4 ++ i.wit)
def outpB (o : OutD) : Bs := le o.amt.toNat 8 ++ o.lock
/-- A transaction's bytes. -/
def packB (x : TxD) : Bs := le x.ins.length 2 ++ x.ins.flatMap inpB ++ le x.outs.length 2 ++ x.outs.flatMap outpB ++ le x.nonce.toNat 8

theorem flatMap_len {α : Type} (f : α → Bs) (B : Nat) (l : List α) (h : ∀ x ∈ l, (f x).length ≤ B) : (l.flatMap f).length ≤ l.length * B := by
  induction l with
  | nil => simp
  | cons x l ih =>
    have h1 := h x (by simp)
    have h2 := ih (fun y hy => h y (by simp [hy]))
    rw [List.flatMap_cons, List.length_append, List.length_cons, Nat.add_mul]
    omega

theorem flatMap_next {α : Type} (f : α → Bs) {l : List α} {k : Nat} {x : α} (hx : l[k]? = some x) : (l.take (k + 1)).flatMap f = (l.take k).flatMap f ++ f x := by
  rw [List.take_add_one, hx, Option.toList, List.flatMap_append]
  simp

end Go.Proofs.Ytkbahhnjoidhcaa
