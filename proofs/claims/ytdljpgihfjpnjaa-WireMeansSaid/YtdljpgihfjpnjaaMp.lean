/- What was put is read so: the plain law (no program). -/
import Derived.Test.YtdljpgihfjpnjaaLc
import Derived.Test.YtdljpgihfjpnjaaRt
namespace Go.Proofs.Ytdljpgihfjpnjaa
set_option linter.unusedVariables false
set_option linter.unusedSimpArgs false
open Go.RowKit

theorem ofLE_le (m k : Nat) : ofLE (le m k) = m % 2 ^ (8 * k) := by
  induction k with
  | zero => simp [le, ofLE, Nat.mod_one]
  | succ k ih =>
    rw [le, ofLE_snoc, ih, le_length, UInt8.toNat_ofNat', Nat.mul_add, Nat.pow_add]
    have h1 : 2 ^ (8 * 1) = 256 := rfl
    rw [h1, Nat.mod_mul, Nat.mul_comm (2 ^ (8 * k))]

theorem rcut_app (a b : List UInt8) (n : Int) (h : n = a.length) : rcut (some (a ++ b)) n = (a, some b) := by
  subst h
  simp only [rcut]
  rw [if_pos ⟨by omega, by simp; omega⟩]
  simp

theorem rnum_app (m : Nat) (s : Int) (hs : okSize s = true) (hm : m < 2 ^ (8 * s.toNat)) (b : List UInt8) : rnum (some (le m s.toNat ++ b)) s = (m, some b) := by
  simp only [rnum]
  rw [if_pos hs, rcut_app _ _ _ (by obtain ⟨k, e, _⟩ := okSize_nat hs; simp; omega)]
  simp [ofLE_le, Nat.mod_eq_of_lt hm]

theorem rblob_app (b c : List UInt8) (hb : b.length ≤ 16777216) : rblob (some (le b.length 4 ++ b ++ c)) = (b, some c) := by
  have h := rnum_app b.length 4 rfl (by simp; omega) (b ++ c)
  simp only [Int.reduceToNat] at h
  simp only [rblob]
  rw [List.append_assoc, h]
  simp only
  rw [if_neg (by omega), rcut_app _ _ _ rfl]

theorem hashOf_32 (l : List UInt8) (h : l.length = 32) : hashOf l = l := by simp [hashOf, h]

/-- A part that can be put begins with its bytes, by its kind. -/
theorem part_read (x : PartD) (c : List UInt8) (hh : x.h.length = 32) (hb : x.b.length ≤ 20000) (ho : (partB x).2 = true) :
    (x.kind = 1 → rnum (some ((partB x).1 ++ c)) x.size = (x.n, some c)) ∧
    (x.kind = 2 → rcut (some ((partB x).1 ++ c)) x.b.length = (x.b, some c)) ∧
    (x.kind = 3 → rblob (some ((partB x).1 ++ c)) = (x.b, some c)) ∧
    (x.kind = 4 → ∃ m : Nat, x.size = m ∧ rnum (some ((partB x).1 ++ c)) 2 = (m, some c)) ∧
    (x.kind = 5 → rcut (some ((partB x).1 ++ c)) 32 = (x.h, some c)) ∧
    (x.kind ≠ 1 → x.kind ≠ 2 → x.kind ≠ 3 → x.kind ≠ 4 → x.kind ≠ 5 → (partB x).1 = []) := by
  refine ⟨fun k => ?_, fun k => ?_, fun k => ?_, fun k => ?_, fun k => ?_, fun k1 k2 k3 k4 k5 => ?_⟩
  · simp only [partB, k, if_true] at ho ⊢
    by_cases hs : okSize x.size = true
    · simp only [hs, if_true, decide_eq_true_eq] at ho ⊢
      exact rnum_app _ _ hs ho c
    · simp [hs] at ho
  · simp [partB, k]
    exact rcut_app _ _ _ rfl
  · have : (partB x).1 = le x.b.length 4 ++ x.b := by simp [partB, k]
    rw [this]
    exact rblob_app _ _ (by omega)
  · simp only [partB, k] at ho ⊢
    by_cases hs : 0 ≤ x.size ∧ x.size ≤ 65535
    · refine ⟨x.size.toNat, by omega, ?_⟩
      simp [hs]
      exact rnum_app x.size.toNat 2 rfl (by simp; omega) c
    · simp [hs] at ho
  · simp [partB, k]
    exact rcut_app _ _ _ (by omega)
  · simp [partB, k1, k2, k3, k4, k5]

theorem allB_drop (l : List PartD) (k : Nat) (h : k < l.length) : allB (l.drop k) = (partB (l[k]'h)).1 ++ allB (l.drop (k + 1)) := by
  rw [List.drop_eq_getElem_cons h]
  simp only [allB, List.map_cons, List.flatten_cons]

theorem allOk_get (l : List PartD) (h : allOk l = true) (k : Nat) (hk : k < l.length) : (partB (l[k]'hk)).2 = true := by
  simp only [allOk, List.all_eq_true] at h
  exact h _ (List.getElem_mem hk)

/-- All parts, as blobs. -/
def blobD (x : PartD) : PartD := ⟨3, 0, 0, x.b, List.replicate 32 0⟩

theorem blobs_ok (l : List PartD) : allOk (l.map blobD) = true := by
  simp only [allOk, List.all_map, List.all_eq_true]
  intro x _
  simp [partB, blobD]

theorem blobs_few (l : List PartD) (h : Few l) : Few (l.map blobD) := by
  refine ⟨by simpa using h.1, ?_⟩
  rw [List.map_map]
  exact h.2

theorem blobs_inj (l o : List PartD) (hl : ∀ x ∈ l, x.b.length ≤ 16777216) (ho : ∀ x ∈ o, x.b.length ≤ 16777216) :
    allB (l.map blobD) = allB (o.map blobD) ↔ l.map (·.b) = o.map (·.b) := by
  constructor
  · intro h
    induction l generalizing o with
    | nil =>
      cases o with
      | nil => rfl
      | cons y o =>
        have := congrArg List.length h
        simp [allB, partB, blobD] at this
        omega
    | cons x l ih =>
      cases o with
      | nil =>
        have := congrArg List.length h
        simp [allB, partB, blobD] at this
      | cons y o =>
        have e1 : allB ((x :: l).map blobD) = le x.b.length 4 ++ x.b ++ allB (l.map blobD) := by simp [allB, partB, blobD]
        have e2 : allB ((y :: o).map blobD) = le y.b.length 4 ++ y.b ++ allB (o.map blobD) := by simp [allB, partB, blobD]
        rw [e1, e2] at h
        have h1 := rblob_app x.b (allB (l.map blobD)) (hl x (by simp))
        have h2 := rblob_app y.b (allB (o.map blobD)) (ho y (by simp))
        rw [h, h2] at h1
        simp only [Prod.mk.injEq, Option.some.injEq] at h1
        rw [List.map_cons, List.map_cons, h1.1, ih o (fun x hx => hl x (by simp [hx])) (fun x hx => ho x (by simp [hx])) h1.2.symm]
  · intro h
    have key : ∀ m : List PartD, allB (m.map blobD) = ((m.map (·.b)).map fun b => le b.length 4 ++ b).flatten := by
      intro m
      simp [allB, partB, blobD, Function.comp_def]
    rw [key, key, h]

end Go.Proofs.Ytdljpgihfjpnjaa
