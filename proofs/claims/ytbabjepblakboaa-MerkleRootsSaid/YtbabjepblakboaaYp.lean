/- Merkle: rows, paths, sizes: the plain law. -/
import Derived.Test.YtbabjepblakboaaKit
namespace Go.Proofs.Ytbabjepblakboaa
set_option linter.unusedVariables false
set_option linter.unusedSimpArgs false

section
variable {α : Type} (K : α → α → α) (d : α)

/-- The row above a row. -/
def up : List α → List α
  | a :: b :: l => K a b :: up l
  | [a] => [a]
  | [] => []

def upN : Nat → List α → List α
  | 0, l => l
  | m + 1, l => up K (upN m l)

theorem up_length (l : List α) : (up K l).length = (l.length + 1) / 2 := by
  induction l using up.induct with
  | case1 a b l ih => simp [up, ih]; omega
  | case2 a => simp [up]
  | case3 => simp [up]

theorem up_append (l1 l2 : List α) (h : l1.length % 2 = 0) : up K (l1 ++ l2) = up K l1 ++ up K l2 := by
  induction l1 using up.induct with
  | case1 a b l ih =>
    have h' : l.length % 2 = 0 := by simp at h; omega
    simp [up, ih h']
  | case2 a => simp at h
  | case3 => simp [up]

theorem upN_single (x : α) (m : Nat) : upN K m [x] = [x] := by
  induction m with
  | zero => rfl
  | succ m ih => simp [upN, ih, up]

theorem upN_nil (m : Nat) : upN K m [] = [] := by
  induction m with
  | zero => rfl
  | succ m ih => simp [upN, ih, up]

theorem upN_add (a b : Nat) (l : List α) : upN K (a + b) l = upN K b (upN K a l) := by
  induction b with
  | zero => rfl
  | succ b ih => show up K (upN K (a + b) l) = up K (upN K b (upN K a l)); rw [ih]

/-- How long the t-th row above is. -/
def cnt (c : Nat) : Nat → Nat
  | 0 => c
  | t + 1 => (cnt c t + 1) / 2

theorem upN_length (t : Nat) (l : List α) : (upN K t l).length = cnt l.length t := by
  induction t with
  | zero => rfl
  | succ t ih => simp [upN, up_length, ih, cnt]

theorem cnt_pow (m t : Nat) (h : t ≤ m) : cnt (2 ^ m) t = 2 ^ (m - t) := by
  induction t with
  | zero => rfl
  | succ t ih =>
    rw [cnt, ih (by omega)]
    have : m - t = (m - (t + 1)) + 1 := by omega
    rw [this, Nat.pow_succ]
    omega

theorem cnt_mono (a b t : Nat) (h : a ≤ b) : cnt a t ≤ cnt b t := by
  induction t with
  | zero => exact h
  | succ t ih => simp only [cnt]; omega

theorem cnt_add_pow (m t c : Nat) (h : t ≤ m) : cnt (2 ^ m + c) t = 2 ^ (m - t) + cnt c t := by
  induction t with
  | zero => rfl
  | succ t ih =>
    rw [cnt, ih (by omega), cnt]
    have : m - t = (m - (t + 1)) + 1 := by omega
    rw [this, Nat.pow_succ]
    omega

theorem cnt_pos (c t : Nat) (h : 1 ≤ c) : 1 ≤ cnt c t := by
  induction t with
  | zero => exact h
  | succ t ih => simp only [cnt]; omega

theorem cnt_div (n c t : Nat) (h : n < c) : n / 2 ^ t < cnt c t := by
  induction t with
  | zero => simpa [cnt] using h
  | succ t ih =>
    rw [Nat.pow_succ, ← Nat.div_div_eq_div_mul, cnt]
    omega

theorem upN_append (m t : Nat) (l1 l2 : List α) (hl : l1.length = 2 ^ m) (h : t ≤ m) : upN K t (l1 ++ l2) = upN K t l1 ++ upN K t l2 := by
  induction t with
  | zero => rfl
  | succ t ih =>
    rw [upN, ih (by omega), up_append]
    · rfl
    · rw [upN_length, hl, cnt_pow m t (by omega)]
      have : m - t = (m - t - 1) + 1 := by omega
      rw [this, Nat.pow_succ]
      omega

def leftM : Nat → List α → α
  | 0, l => l.headD d
  | m + 1, l => if l.length ≤ 2 ^ m then leftM m l else K (leftM m (l.take (2 ^ m))) (leftM m (l.drop (2 ^ m)))

theorem upN_left (m : Nat) (l : List α) (h1 : 1 ≤ l.length) (h2 : l.length ≤ 2 ^ m) : upN K m l = [leftM K d m l] := by
  induction m generalizing l with
  | zero =>
    obtain ⟨x, rfl⟩ := List.length_eq_one_iff.1 (show l.length = 1 by simp at h2; omega)
    rfl
  | succ m ih =>
    by_cases h : l.length ≤ 2 ^ m
    · rw [upN, ih l h1 h, leftM, if_pos h]; rfl
    · have hp : 2 ^ (m + 1) = 2 ^ m * 2 := Nat.pow_succ _ _
      rw [leftM, if_neg h]
      have e1 : l = l.take (2 ^ m) ++ l.drop (2 ^ m) := (List.take_append_drop _ _).symm
      have l1 : (l.take (2 ^ m)).length = 2 ^ m := by rw [List.length_take]; omega
      have l2 : (l.drop (2 ^ m)).length = l.length - 2 ^ m := List.length_drop
      rw [upN]
      conv => lhs; rw [e1]
      rw [upN_append K m m _ _ l1 (Nat.le_refl _), ih _ (by omega) (by omega), ih (l.drop (2 ^ m)) (by omega) (by omega)]
      rfl

theorem upN_stop (t m : Nat) (l : List α) (h1 : (upN K t l).length ≤ 1) (h : t ≤ m) : upN K m l = upN K t l := by
  obtain ⟨e, rfl⟩ : ∃ e, m = t + e := ⟨m - t, by omega⟩
  rw [upN_add]
  generalize upN K t l = r at h1 ⊢
  rcases r with _ | ⟨x, r⟩
  · exact upN_nil K e
  · have : r = [] := List.eq_nil_of_length_eq_zero (by simpa using h1)
    subst this
    exact upN_single K x e

theorem upN_end (t m : Nat) (l : List α) (h0 : 1 ≤ l.length) (hm : l.length ≤ 2 ^ m) (h1 : (upN K t l).length ≤ 1) : upN K t l = [leftM K d m l] := by
  have h2 := upN_left K d m l h0 hm
  rcases Nat.le_total t m with h | h
  · rw [← upN_stop K t m l h1 h, h2]
  · rw [upN_stop K m t l (by rw [h2]; simp) h, h2]

/-- The place beside a place. -/
def bes (n : Nat) : Nat := if n % 2 = 0 then n + 1 else n - 1

theorem bes_lt_even {n c : Nat} (h : n < 2 * c) : bes n < 2 * c := by unfold bes; split <;> omega
theorem bes_add (n c : Nat) : bes (2 * c + n) = 2 * c + bes n := by unfold bes; split <;> split <;> omega

/-- The path behind t rows. -/
def accP (n : Nat) (l : List α) : Nat → List α
  | 0 => []
  | t + 1 => accP n l t ++ (if bes (n / 2 ^ t) < (upN K t l).length then [(upN K t l).getD (bes (n / 2 ^ t)) d] else [])

def pathM : Nat → Nat → List α → List α
  | 0, _, _ => []
  | m + 1, n, l => if l.length ≤ 2 ^ m then pathM m n l else if n < 2 ^ m then pathM m n (l.take (2 ^ m)) ++ [leftM K d m (l.drop (2 ^ m))] else pathM m (n - 2 ^ m) (l.drop (2 ^ m)) ++ [leftM K d m (l.take (2 ^ m))]

theorem accP_stop (n : Nat) (l : List α) (t : Nat) (hn : n < l.length) (h : (upN K t l).length ≤ 1) (m : Nat) (hm : t ≤ m) : accP K d n l m = accP K d n l t := by
  obtain ⟨e, rfl⟩ : ∃ e, m = t + e := ⟨m - t, by omega⟩
  clear hm
  induction e with
  | zero => rfl
  | succ e ih =>
    rw [show t + (e + 1) = (t + e) + 1 by omega, accP, ih]
    have h1 : upN K (t + e) l = upN K t l := upN_stop K t (t + e) l h (by omega)
    have h2 := cnt_div n l.length (t + e) hn
    rw [← upN_length K (t + e) l, h1] at h2
    have h3 : n / 2 ^ (t + e) = 0 := Nat.lt_one_iff.1 (Nat.lt_of_lt_of_le h2 h)
    rw [h1, h3, if_neg]
    · simp
    · rw [show bes 0 = 1 from rfl]
      omega

theorem accP_left (m n : Nat) (l1 l2 : List α) (hl : l1.length = 2 ^ m) (hn : n < 2 ^ m) (t : Nat) (ht : t ≤ m) : accP K d n (l1 ++ l2) t = accP K d n l1 t := by
  induction t with
  | zero => rfl
  | succ t ih =>
    rw [accP, accP, ih (by omega), upN_append K m t l1 l2 hl (by omega)]
    have hc : (upN K t l1).length = 2 * 2 ^ (m - t - 1) := by
      rw [upN_length, hl, cnt_pow m t (by omega), ← Nat.pow_succ']
      congr 1; omega
    have hd : n / 2 ^ t < 2 * 2 ^ (m - t - 1) := by
      have := cnt_div n (2 ^ m) t hn
      rw [cnt_pow m t (by omega)] at this
      have e : m - t = (m - t - 1) + 1 := by omega
      rw [e] at this
      rw [← Nat.pow_succ']
      exact this
    have hb := bes_lt_even hd
    rw [if_pos (by rw [List.length_append]; omega), if_pos (by omega)]
    congr 2
    simp only [List.getD_eq_getElem?_getD]
    rw [List.getElem?_append_left (by omega)]

theorem accP_right (m n : Nat) (l1 l2 : List α) (hl : l1.length = 2 ^ m) (t : Nat) (ht : t ≤ m) : accP K d (2 ^ m + n) (l1 ++ l2) t = accP K d n l2 t := by
  induction t with
  | zero => rfl
  | succ t ih =>
    rw [accP, accP, ih (by omega), upN_append K m t l1 l2 hl (by omega)]
    have hc : (upN K t l1).length = 2 * 2 ^ (m - t - 1) := by
      rw [upN_length, hl, cnt_pow m t (by omega), ← Nat.pow_succ']
      congr 1; omega
    have hd : (2 ^ m + n) / 2 ^ t = 2 * 2 ^ (m - t - 1) + n / 2 ^ t := by
      have h1 : 2 ^ m = 2 ^ t * (2 * 2 ^ (m - t - 1)) := by
        rw [← Nat.pow_succ', ← Nat.pow_add]
        congr 1; omega
      rw [h1, Nat.mul_add_div (Nat.pow_pos (by omega))]
    rw [hd, bes_add, List.length_append, hc]
    by_cases hb : bes (n / 2 ^ t) < (upN K t l2).length
    · rw [if_pos (by omega), if_pos hb]
      congr 2
      simp only [List.getD_eq_getElem?_getD]
      rw [List.getElem?_append_right (by omega), hc]
      congr 3
      omega
    · rw [if_neg (by omega), if_neg hb]

theorem accP_path (m n : Nat) (l : List α) (hn : n < l.length) (hl : l.length ≤ 2 ^ m) : accP K d n l m = pathM K d m n l := by
  induction m generalizing n l with
  | zero => rfl
  | succ m ih =>
    have hp : 2 ^ (m + 1) = 2 ^ m * 2 := Nat.pow_succ _ _
    rw [pathM]
    by_cases h : l.length ≤ 2 ^ m
    · rw [if_pos h, accP_stop K d n l m hn (by rw [upN_left K d m l (by omega) h]; simp) (m + 1) (by omega)]
      exact ih n l hn h
    · rw [if_neg h]
      have e1 : l = l.take (2 ^ m) ++ l.drop (2 ^ m) := (List.take_append_drop _ _).symm
      have l1 : (l.take (2 ^ m)).length = 2 ^ m := by rw [List.length_take]; omega
      have l2 : (l.drop (2 ^ m)).length = l.length - 2 ^ m := List.length_drop
      have hrow : upN K m l = [leftM K d m (l.take (2 ^ m)), leftM K d m (l.drop (2 ^ m))] := by
        conv => lhs; rw [e1]
        rw [upN_append K m m _ _ l1 (Nat.le_refl _), upN_left K d m _ (by omega) (by omega), upN_left K d m _ (by omega) (by omega)]
        rfl
      rw [accP, hrow]
      by_cases hk : n < 2 ^ m
      · rw [if_pos hk]
        have h0 : n / 2 ^ m = 0 := Nat.div_eq_of_lt hk
        rw [h0]
        have h2 : accP K d n l m = pathM K d m n (l.take (2 ^ m)) := by
          conv => lhs; rw [e1]
          rw [accP_left K d m n _ _ l1 hk m (Nat.le_refl _)]
          exact ih n _ (by omega) (by omega)
        rw [h2]
        rfl
      · rw [if_neg hk]
        have hpos : 0 < 2 ^ m := Nat.pow_pos (by omega)
        have h0 : n / 2 ^ m = 1 := by
          apply Nat.div_eq_of_lt_le <;> omega
        rw [h0]
        have h2 : accP K d n l m = pathM K d m (n - 2 ^ m) (l.drop (2 ^ m)) := by
          conv => lhs; rw [e1]
          conv => lhs; rw [show n = 2 ^ m + (n - 2 ^ m) by omega]
          rw [accP_right K d m (n - 2 ^ m) _ _ l1 m (Nat.le_refl _)]
          exact ih (n - 2 ^ m) _ (by omega) (by omega)
        rw [h2]
        rfl

theorem accP_end (t m n : Nat) (l : List α) (hn : n < l.length) (hm : l.length ≤ 2 ^ m) (h1 : (upN K t l).length ≤ 1) : accP K d n l t = pathM K d m n l := by
  have h2 := upN_left K d m l (by omega) hm
  rw [← accP_path K d m n l hn hm]
  rcases Nat.le_total t m with h | h
  · exact (accP_stop K d n l t hn h1 m h).symm
  · exact accP_stop K d n l m hn (by rw [h2]; simp) t h
end

/-- How many behind t rows. -/
def accS (n c : Nat) : Nat → Nat
  | 0 => 0
  | t + 1 => accS n c t + (if bes (n / 2 ^ t) < cnt c t then 1 else 0)

def sizeM : Nat → Nat → Nat → Nat
  | 0, _, _ => 0
  | m + 1, n, c => if c ≤ 2 ^ m then sizeM m n c else if n < 2 ^ m then 1 + sizeM m n (2 ^ m) else 1 + sizeM m (n - 2 ^ m) (c - 2 ^ m)

theorem accP_length {α : Type} (K : α → α → α) (d : α) (n : Nat) (l : List α) (t : Nat) : (accP K d n l t).length = accS n l.length t := by
  induction t with
  | zero => rfl
  | succ t ih =>
    rw [accP, accS, List.length_append, ih, upN_length]
    split <;> rfl

theorem pathM_length {α : Type} (K : α → α → α) (d : α) (m n : Nat) (l : List α) (hl : l.length ≤ 2 ^ m) : (pathM K d m n l).length = sizeM m n l.length := by
  induction m generalizing n l with
  | zero => rfl
  | succ m ih =>
    have hp : 2 ^ (m + 1) = 2 ^ m * 2 := Nat.pow_succ _ _
    rw [pathM, sizeM]
    by_cases h : l.length ≤ 2 ^ m
    · rw [if_pos h, if_pos h, ih n l h]
    · rw [if_neg h, if_neg h]
      have l1 : (l.take (2 ^ m)).length = 2 ^ m := by rw [List.length_take]; omega
      have l2 : (l.drop (2 ^ m)).length = l.length - 2 ^ m := List.length_drop
      split
      · rw [List.length_append, ih _ _ (by omega), l1]; simp; omega
      · rw [List.length_append, ih _ _ (by omega), l2]; simp; omega

theorem accS_end (t m n c : Nat) (hn : n < c) (hm : c ≤ 2 ^ m) (h1 : cnt c t ≤ 1) : accS n c t = sizeM m n c := by
  have hl : (List.replicate c ()).length = c := List.length_replicate
  have h := accP_end (fun _ _ => ()) () t m n (List.replicate c ()) (by omega) (by omega) (by rw [upN_length, hl]; exact h1)
  have h2 := congrArg List.length h
  rw [accP_length, pathM_length _ _ _ _ _ (by omega), hl] at h2
  exact h2

theorem sizeM_le (m n c : Nat) : sizeM m n c ≤ m := by
  induction m generalizing n c with
  | zero => simp [sizeM]
  | succ m ih =>
    rw [sizeM]
    split
    · have := ih n c; omega
    · split
      · have := ih n (2 ^ m); omega
      · have := ih (n - 2 ^ m) (c - 2 ^ m); omega
end Go.Proofs.Ytbabjepblakboaa
