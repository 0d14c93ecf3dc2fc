/- Merkle: what a path comes to: the plain law. -/
import Derived.Test.YtbabjepblakboaaYp
namespace Go.Proofs.Ytbabjepblakboaa
set_option linter.unusedVariables false
set_option linter.unusedSimpArgs false

section
variable {α : Type} (K : α → α → α) (d : α)

/-- One row up. -/
def stepL (p q : Nat) (s : α × List α) : α × List α :=
  if bes p < q then (if p % 2 = 1 then K (s.2.headD d) s.1 else K s.1 (s.2.headD d), s.2.tail) else s

def accL (n c : Nat) (a : α) (hs : List α) : Nat → α × List α
  | 0 => (a, hs)
  | t + 1 => stepL K d (n / 2 ^ t) (cnt c t) (accL n c a hs t)

def leadM : Nat → Nat → Nat → α → List α → α
  | 0, _, _, a, _ => a
  | m + 1, n, c, a, hs => if c ≤ 2 ^ m then leadM m n c a hs else if n < 2 ^ m then K (leadM m n (2 ^ m) a (hs.take (hs.length - 1))) (hs.getD (hs.length - 1) d) else K (hs.getD (hs.length - 1) d) (leadM m (n - 2 ^ m) (c - 2 ^ m) a (hs.take (hs.length - 1)))

theorem accL_stop (n c : Nat) (a : α) (hs : List α) (t : Nat) (hn : n < c) (h : cnt c t ≤ 1) (m : Nat) (hm : t ≤ m) : accL K d n c a hs m = accL K d n c a hs t := by
  obtain ⟨e, rfl⟩ : ∃ e, m = t + e := ⟨m - t, by omega⟩
  clear hm
  have hc : ∀ e, cnt c (t + e) ≤ 1 := by
    intro e
    induction e with
    | zero => exact h
    | succ e ih => show (cnt c (t + e) + 1) / 2 ≤ 1; omega
  induction e with
  | zero => rfl
  | succ e ih =>
    rw [show t + (e + 1) = (t + e) + 1 by omega, accL, ih]
    have h2 := cnt_div n c (t + e) hn
    have h4 := hc e
    have h3 : n / 2 ^ (t + e) = 0 := Nat.lt_one_iff.1 (Nat.lt_of_lt_of_le h2 h4)
    rw [h3, stepL, if_neg]
    rw [show bes 0 = 1 from rfl]
    omega

theorem accL_left (m n c : Nat) (a : α) (hs : List α) (hn : n < 2 ^ m) (t : Nat) (ht : t ≤ m) : accL K d n (2 ^ m + c) a hs t = accL K d n (2 ^ m) a hs t := by
  induction t with
  | zero => rfl
  | succ t ih =>
    rw [accL, accL, ih (by omega)]
    have hd : n / 2 ^ t < 2 * 2 ^ (m - t - 1) := by
      have := cnt_div n (2 ^ m) t hn
      rw [cnt_pow m t (by omega)] at this
      have e : m - t = (m - t - 1) + 1 := by omega
      rw [e] at this
      rw [← Nat.pow_succ']
      exact this
    have hb := bes_lt_even hd
    have hp : 2 ^ (m - t) = 2 * 2 ^ (m - t - 1) := by rw [← Nat.pow_succ']; congr 1; omega
    have h1 : cnt (2 ^ m + c) t = 2 ^ (m - t) + cnt c t := cnt_add_pow m t c (by omega)
    have h2 : cnt (2 ^ m) t = 2 ^ (m - t) := cnt_pow m t (by omega)
    unfold stepL
    rw [if_pos (show bes (n / 2 ^ t) < cnt (2 ^ m + c) t by rw [h1]; omega), if_pos (show bes (n / 2 ^ t) < cnt (2 ^ m) t by rw [h2]; omega)]

theorem accL_right (m n c : Nat) (a : α) (hs : List α) (t : Nat) (ht : t ≤ m) : accL K d (2 ^ m + n) (2 ^ m + c) a hs t = accL K d n c a hs t := by
  induction t with
  | zero => rfl
  | succ t ih =>
    rw [accL, accL, ih (by omega)]
    have hd : (2 ^ m + n) / 2 ^ t = 2 * 2 ^ (m - t - 1) + n / 2 ^ t := by
      have h1 : 2 ^ m = 2 ^ t * (2 * 2 ^ (m - t - 1)) := by
        rw [← Nat.pow_succ', ← Nat.pow_add]
        congr 1; omega
      rw [h1, Nat.mul_add_div (Nat.pow_pos (by omega))]
    have hp : 2 ^ (m - t) = 2 * 2 ^ (m - t - 1) := by rw [← Nat.pow_succ']; congr 1; omega
    have h1 : cnt (2 ^ m + c) t = 2 ^ (m - t) + cnt c t := cnt_add_pow m t c (by omega)
    rw [hd, h1, hp]
    unfold stepL
    rw [bes_add]
    by_cases h : bes (n / 2 ^ t) < cnt c t
    · rw [if_pos (by omega), if_pos h]
      rw [show (2 * 2 ^ (m - t - 1) + n / 2 ^ t) % 2 = n / 2 ^ t % 2 by omega]
    · rw [if_neg (by omega), if_neg h]

theorem cnt_small (m c : Nat) (h : c ≤ 2 ^ m) : cnt c m ≤ 1 := by
  have := cnt_mono c (2 ^ m) m h
  rw [cnt_pow m m (Nat.le_refl _)] at this
  simpa using this

theorem cnt_two (m c : Nat) (h0 : 2 ^ m < c) (h1 : c ≤ 2 ^ (m + 1)) : cnt c m = 2 := by
  obtain ⟨e, rfl⟩ : ∃ e, c = 2 ^ m + e := ⟨c - 2 ^ m, by omega⟩
  rw [cnt_add_pow m m e (Nat.le_refl _), Nat.sub_self]
  have h2 := cnt_small m e (by rw [Nat.pow_succ] at h1; omega)
  have h3 := cnt_pos e m (by omega)
  rw [show (2 : Nat) ^ 0 = 1 from rfl]
  omega

theorem take_last (hs : List α) (s : Nat) (h : s < hs.length) : (hs.take (1 + s)).length - 1 = s ∧ (hs.take (1 + s)).take s = hs.take s ∧ (hs.take (1 + s)).getD s d = (hs.drop s).headD d ∧ (hs.drop s).tail = hs.drop (1 + s) := by
  refine ⟨by rw [List.length_take]; omega, by rw [List.take_take]; congr 1; omega, ?_, by rw [List.tail_drop]; congr 1; omega⟩
  rw [List.getD_eq_getElem?_getD, List.getElem?_take, if_pos (by omega), List.getElem?_eq_getElem h, List.drop_eq_getElem_cons h]
  rfl

theorem accL_lead (m n c : Nat) (a : α) (hs : List α) (hn : n < c) (hc : c ≤ 2 ^ m) (hl : sizeM m n c ≤ hs.length) : accL K d n c a hs m = (leadM K d m n c a (hs.take (sizeM m n c)), hs.drop (sizeM m n c)) := by
  induction m generalizing n c with
  | zero => simp [accL, leadM, sizeM]
  | succ m ih =>
    have hp : 2 ^ (m + 1) = 2 ^ m * 2 := Nat.pow_succ _ _
    rw [leadM, sizeM]
    rw [sizeM] at hl
    by_cases h : c ≤ 2 ^ m
    · rw [if_pos h] at hl
      rw [if_pos h, if_pos h, ← ih n c hn h hl]
      exact accL_stop K d n c a hs m hn (cnt_small m c h) (m + 1) (by omega)
    · rw [if_neg h] at hl
      rw [if_neg h, if_neg h, accL, cnt_two m c (by omega) hc]
      obtain ⟨e, rfl⟩ : ∃ e, c = 2 ^ m + e := ⟨c - 2 ^ m, by omega⟩
      by_cases hk : n < 2 ^ m
      · rw [if_pos hk] at hl
        rw [if_pos hk, if_pos hk, accL_left K d m n e a hs hk m (Nat.le_refl _), ih n (2 ^ m) hk (Nat.le_refl _) (by omega), Nat.div_eq_of_lt hk]
        obtain ⟨t1, t2, t3, t4⟩ := take_last d hs (sizeM m n (2 ^ m)) (by omega)
        rw [t1, t2, t3, ← t4]
        rfl
      · rw [if_neg hk] at hl
        obtain ⟨f, rfl⟩ : ∃ f, n = 2 ^ m + f := ⟨n - 2 ^ m, by omega⟩
        have hpos : 0 < 2 ^ m := Nat.pow_pos (by omega)
        have h0 : (2 ^ m + f) / 2 ^ m = 1 := by apply Nat.div_eq_of_lt_le <;> omega
        simp only [Nat.add_sub_cancel_left] at hl ⊢
        rw [if_neg hk, if_neg hk, accL_right K d m f e a hs m (Nat.le_refl _), ih f e (by omega) (by omega) (by omega), h0]
        obtain ⟨t1, t2, t3, t4⟩ := take_last d hs (sizeM m f e) (by omega)
        rw [t1, t2, t3, ← t4]
        rfl

theorem accL_end (t m n c : Nat) (a : α) (hs : List α) (hn : n < c) (hc : c ≤ 2 ^ m) (hl : hs.length = sizeM m n c) (h1 : cnt c t ≤ 1) : (accL K d n c a hs t).1 = leadM K d m n c a hs := by
  have h2 := accL_lead K d m n c a hs hn hc (by omega)
  rw [List.take_of_length_le (by omega)] at h2
  have h3 : accL K d n c a hs t = accL K d n c a hs m := by
    rcases Nat.le_total t m with h | h
    · exact (accL_stop K d n c a hs t hn h1 m h).symm
    · exact accL_stop K d n c a hs m hn (cnt_small m c hc) t h
  rw [h3, h2]

theorem accL_rest (n c : Nat) (a : α) (hs : List α) (t : Nat) : (accL K d n c a hs t).2 = hs.drop (accS n c t) := by
  induction t with
  | zero => rfl
  | succ t ih =>
    rw [accL, accS]
    unfold stepL
    by_cases h : bes (n / 2 ^ t) < cnt c t
    · rw [if_pos h, if_pos h]
      show (accL K d n c a hs t).2.tail = _
      rw [ih, List.tail_drop]
    · rw [if_neg h, if_neg h, ih]; rfl

theorem accS_mono (n c t u : Nat) (h : t ≤ u) : accS n c t ≤ accS n c u := by
  obtain ⟨e, rfl⟩ : ∃ e, u = t + e := ⟨u - t, by omega⟩
  clear h
  induction e with
  | zero => exact Nat.le_refl _
  | succ e ih =>
    rw [show t + (e + 1) = (t + e) + 1 by omega, accS]
    omega

/-- Where a row still has a neighbour, hashes are left. -/
theorem accS_lt (t m n c : Nat) (hn : n < c) (hc : c ≤ 2 ^ m) (h : bes (n / 2 ^ t) < cnt c t) : accS n c t < sizeM m n c := by
  have h1 : accS n c (t + 1) = accS n c t + 1 := by rw [accS, if_pos h]
  have ht : t < m := by
    rcases Nat.lt_or_ge t m with h2 | h2
    · exact h2
    · exfalso
      have h3 := cnt_small m c hc
      obtain ⟨e, rfl⟩ : ∃ e, t = m + e := ⟨t - m, by omega⟩
      have h4 : ∀ e, cnt c (m + e) ≤ 1 := by
        intro e
        induction e with
        | zero => exact h3
        | succ e ih => show (cnt c (m + e) + 1) / 2 ≤ 1; omega
      have h5 := cnt_div n c (m + e) hn
      have h6 := h4 e
      have h7 : n / 2 ^ (m + e) = 0 := Nat.lt_one_iff.1 (Nat.lt_of_lt_of_le h5 h6)
      rw [h7, show bes 0 = 1 from rfl] at h
      omega
  have h2 := accS_mono n c (t + 1) m (by omega)
  have h3 := accS_end m m n c hn hc (cnt_small m c hc)
  omega

/-- A path of its own place leads to the root. -/
theorem lead_path (m n : Nat) (l : List α) (hn : n < l.length) (hl : l.length ≤ 2 ^ m) : leadM K d m n l.length (l.getD n d) (pathM K d m n l) = leftM K d m l := by
  induction m generalizing n l with
  | zero =>
    obtain ⟨x, rfl⟩ := List.length_eq_one_iff.1 (show l.length = 1 by simp at hl; omega)
    simp at hn; subst hn
    rfl
  | succ m ih =>
    have hp : 2 ^ (m + 1) = 2 ^ m * 2 := Nat.pow_succ _ _
    rw [leadM, pathM, leftM]
    by_cases h : l.length ≤ 2 ^ m
    · rw [if_pos h, if_pos h, if_pos h, ih n l hn h]
    · rw [if_neg h, if_neg h, if_neg h]
      have l1 : (l.take (2 ^ m)).length = 2 ^ m := by rw [List.length_take]; omega
      have l2 : (l.drop (2 ^ m)).length = l.length - 2 ^ m := List.length_drop
      by_cases hk : n < 2 ^ m
      · rw [if_pos hk, if_pos hk]
        have h1 := ih n (l.take (2 ^ m)) (by omega) (by omega)
        rw [l1] at h1
        simp only [List.length_append, List.length_cons, List.length_nil, Nat.zero_add, Nat.add_sub_cancel, List.take_left']
        rw [← h1]
        congr 1
        · congr 1
          simp [List.getD_eq_getElem?_getD, hk]
        · simp [List.getD_eq_getElem?_getD]
      · rw [if_neg hk, if_neg hk]
        have h1 := ih (n - 2 ^ m) (l.drop (2 ^ m)) (by omega) (by omega)
        rw [l2] at h1
        simp only [List.length_append, List.length_cons, List.length_nil, Nat.zero_add, Nat.add_sub_cancel]
        rw [← h1]
        congr 1
        · simp [List.getD_eq_getElem?_getD]
        · congr 1
          · simp only [List.getD_eq_getElem?_getD, List.getElem?_drop]; congr 2; omega
          · simp
end
end Go.Proofs.Ytbabjepblakboaa
