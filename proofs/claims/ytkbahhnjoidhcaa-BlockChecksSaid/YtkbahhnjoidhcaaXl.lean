/- tx.Copy: the walk. -/
import Derived.Test.YtkbahhnjoidhcaaXb
import Derived.Test.YtkbahhnjoidhcaaXg
import Derived.Test.YtkbahhnjoidhcaaPlb
namespace Go.Proofs.Ytkbahhnjoidhcaa
set_option linter.unusedVariables false
set_option linter.unusedSimpArgs false
open Go.RowKit

theorem rd_small' {w : World} {a : Option Addr} {s n c : Nat} {cs : List Value} (h : Rd w s (.slice a n c) n cs) : (n : Int) ≤ 9223372036854775807 := by
  have h1 : n ≤ maxLen := by
    rcases h.2 with ⟨he, _⟩ | ⟨ad, c', he, h2, h3, _⟩
    · simp only [Value.slice.injEq] at he
      omega
    · simp only [Value.slice.injEq] at he
      omega
  unfold maxLen at h1
  omega

theorem inC_33 {x : InD} {u : Value} (h : InOk x) : (inC (x, u))[33]? = some u := by
  rw [inC_pt, List.getElem?_append_right (by rw [ptC_length h]; exact Nat.le_refl _), ptC_length h]
  rfl

theorem inC_set {x : InD} {u v : Value} (h : InOk x) : (inC (x, u)).set 33 v = inC (x, v) := by
  rw [inC_pt, inC_pt, List.set_append, if_neg (by rw [ptC_length h]; omega), ptC_length h]
  rfl

theorem own_lower' {w : World} {base base' : Nat} {e : TypeId} {size : Nat} {v : Value} {n : Nat} {xs : List Value} (h : w.ownsRow base e size v n xs) (hb : base' ≤ base) : w.ownsRow base' e size v n xs := by
  refine ⟨h.1, ?_⟩
  rcases h.2 with h1 | ⟨g, cap, cur, he, hg, r⟩
  · exact .inl h1
  · exact .inr ⟨g, cap, cur, he, by omega, r⟩

theorem own_onlyT {w w' : World} {base g : Nat} {e : TypeId} {size : Nat} {v : Value} {n : Nat} {xs : List Value} (h : w.ownsRow base e size v n xs) (ho : Only g w w') (hne : v.ownBlock ≠ some g) : w'.ownsRow base e size v n xs := by
  refine ⟨h.1, ?_⟩
  rcases h.2 with h1 | ⟨g', cap, cur, he, hg, hh, r⟩
  · exact .inl h1
  · refine .inr ⟨g', cap, cur, he, hg, ?_, r⟩
    rw [ho.block g' (fun e => hne (by rw [he, ← e]; rfl))]
    exact hh

theorem own_at {w : World} {base : Nat} {e : TypeId} {size : Nat} {v : Value} {n : Nat} {xs : List Value} (h : w.ownsRow base e size v n xs) (h0 : 0 < n) : ∃ g c, v = .slice (some ⟨g, 0, none⟩) n c ∧ (∀ j, w.frozen? ⟨g, j, none⟩ = false) ∧ base ≤ g := by
  rcases h.2 with ⟨_, h1⟩ | ⟨g, cap, cur, he, hg, hh, r⟩
  · omega
  · exact ⟨g, cap, he, fun j => frozen_of_row w g j cur e hh, hg⟩

theorem own_setCell {w : World} {base : Nat} {e : TypeId} {size : Nat} {g n cap : Nat} {xs : List Value} (h : w.ownsRow base e size (.slice (some ⟨g, 0, none⟩) n cap) n xs) (j : Nat) (u : Value) :
    (w.setCell ⟨g, j, none⟩ u).ownsRow base e size (.slice (some ⟨g, 0, none⟩) n cap) n (xs.set j u) := by
  refine ⟨by rw [List.length_set]; exact h.1, ?_⟩
  rcases h.2 with ⟨he, _⟩ | ⟨g', cap', cur, he, hb, hh, h1, h2, h3, h4⟩
  · cases he
  · simp only [Value.slice.injEq, Option.some.injEq, Addr.mk.injEq] at he
    obtain ⟨⟨rfl, _, _⟩, _, rfl⟩ := he
    refine .inr ⟨g, cap, cur.setIfInBounds j u, rfl, hb, heap_setCell_same w g j cur e u hh, h1, h2, by simpa using h3, ?_⟩
    rw [← h4]
    simp [List.take_set]

/-- A cell of one element in a row of elements, set. -/
theorem flat_set {α : Type} (f : α → List Value) (s : Nat) (l : List α) (hf : ∀ x ∈ l, (f x).length = s) {i : Nat} {x y : α} (hi : l[i]? = some x) (hy : (f y).length = s) (j : Nat) (u : Value) (hj : j < s) (hu : (f x).set j u = f y) :
    (l.flatMap f).set (i * s + j) u = (l.set i y).flatMap f := by
  induction l generalizing i with
  | nil => simp at hi
  | cons z l ih =>
    have hz := hf z (by simp)
    rcases i with _ | i
    · simp at hi
      subst hi
      rw [List.flatMap_cons, List.set_cons_zero, List.flatMap_cons, Nat.zero_mul, Nat.zero_add, List.set_append, if_pos (by omega), hu]
    · rw [List.getElem?_cons_succ] at hi
      rw [List.flatMap_cons, List.set_cons_succ, List.flatMap_cons, List.set_append, if_neg (by rw [hz, Nat.add_mul]; omega), hz, ← ih (fun q hq => hf q (by simp [hq])) hi]
      congr 2
      rw [Nat.add_mul]
      omega

theorem zip_set {α β : Type} (l : List α) (us : List β) (k : Nat) (x : α) (u : β) (hx : l[k]? = some x) : (l.zip us).set k (x, u) = l.zip (us.set k u) := by
  induction l generalizing us k with
  | nil => simp at hx
  | cons y l ih =>
    rcases us with _ | ⟨v, us⟩
    · simp
    · rcases k with _ | k
      · simp at hx
        subst hx
        rfl
      · rw [List.getElem?_cons_succ] at hx
        simp [ih us k hx]

end Go.Proofs.Ytkbahhnjoidhcaa
