/- Merkle: the path of each place leads to the root: in plain words. -/
import Derived.Test.YtbabjepblakboaaZb
namespace Go.Proofs.Ytbabjepblakboaa
set_option linter.unusedVariables false
set_option linter.unusedSimpArgs false
open Go.RowKit

def pathB (n : Nat) (l : List Bs) : List Bs := pathM knotB [] 20 n (l.map leafB)

theorem lead_own {l : List Bs} {n : Nat} {x : Bs} (hx : l[n]? = some x) (hl : l.length ≤ 1048576) : leadB n l.length x (pathB n l) = rootB l := by
  have hn : n < l.length := (List.getElem?_eq_some_iff.1 hx).1
  have h1 := lead_path knotB [] 20 n (l.map leafB) (by simpa using hn) (by simpa using hl)
  have h2 : (l.map leafB).getD n [] = leafB x := by
    rw [List.getD_eq_getElem?_getD, List.getElem?_map, hx]
    rfl
  rw [h2, List.length_map] at h1
  unfold leadB rootB pathB
  rw [h1, if_neg (by rintro rfl; simp at hn)]

theorem may_own {l : List Bs} {n : Nat} (hn : n < l.length) (hl : l.length ≤ 1048576) : mayB (n : Int) (l.length : Int) (pathB n l) = true := by
  have h1 := pathM_length knotB [] 20 n (l.map leafB) (by simpa using hl)
  rw [List.length_map] at h1
  simp only [mayB, okPl, Bool.and_eq_true, decide_eq_true_eq, beq_iff_eq]
  refine ⟨⟨⟨by omega, by omega⟩, by omega⟩, ?_⟩
  exact h1

theorem check_own {l : List Bs} {n : Nat} {x : Bs} (hx : l[n]? = some x) (hl : l.length ≤ 1048576) : checkE (rootB l) x (n : Int) (l.length : Int) (pathB n l) = 0 := by
  have hn : n < l.length := (List.getElem?_eq_some_iff.1 hx).1
  have h1 := lead_own hx hl
  unfold checkE
  rw [may_own hn hl, if_pos]
  simpa using h1

theorem check_root {l : List Bs} {n : Nat} {x r : Bs} (hx : l[n]? = some x) (hl : l.length ≤ 1048576) (hr : rootB l ≠ r) : checkE r x (n : Int) (l.length : Int) (pathB n l) = 21 := by
  have h1 := lead_own hx hl
  unfold checkE
  rw [if_neg]
  simp only [Int.toNat_natCast, Bool.and_eq_true, beq_iff_eq]
  rintro ⟨_, h2⟩
  exact hr (h1.symm.trans h2)

theorem checkE_or (r x : Bs) (n c : Int) (hs : List Bs) : checkE r x n c hs = 0 ∨ checkE r x n c hs = 21 := by
  unfold checkE
  split
  · exact .inl rfl
  · exact .inr rfl

/-- A path that checks for a place it is not of. -/
theorem coll_true {l : List Bs} {x y : Bs} {n c : Int} {hs : List Bs} (h : checkE (rootB l) x n c hs = 0) (hne : c = (l.length : Int) → l[n.toNat]? = some y → y ≠ x) (hy : c = (l.length : Int) → l[n.toNat]? = some y) : collB l x n c hs = true := by
  unfold collB rightB
  rw [h]
  by_cases hc : c = (l.length : Int)
  · have h1 : l.getD n.toNat [] = y := by rw [List.getD_eq_getElem?_getD, hy hc]; rfl
    have h2 := hne hc (hy hc)
    rw [h1]
    simp [h2]
  · rw [decide_eq_false hc]
    rfl

theorem lists_told {a b : List Bs} {n : Nat} {x : Bs} (hr : rootB a = rootB b) (hl : a.length ≤ 1048576) (hx : a[n]? = some x) (hne : a.length = b.length → b[n]? ≠ some x) : collB b x (n : Int) (a.length : Int) (pathB n a) = true := by
  have h0 := check_own hx hl
  rw [hr] at h0
  have hn : n < a.length := (List.getElem?_eq_some_iff.1 hx).1
  by_cases hab : a.length = b.length
  · obtain ⟨y, hy⟩ : ∃ y, b[n]? = some y := ⟨_, List.getElem?_eq_getElem (by omega)⟩
    exact coll_true (y := y) h0 (fun _ _ e => hne hab (by rw [hy, e])) (fun _ => by simpa using hy)
  · exact coll_true (y := []) h0 (fun e => absurd (by omega : a.length = b.length) hab) (fun e => absurd (by omega : a.length = b.length) hab)

end Go.Proofs.Ytbabjepblakboaa
