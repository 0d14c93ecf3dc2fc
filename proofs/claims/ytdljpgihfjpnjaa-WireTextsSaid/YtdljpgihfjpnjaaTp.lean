/- Digits of bytes, and bytes of digits: the plain law. -/
import Derived.Tactics
namespace Go.Proofs.Ytdljpgihfjpnjaa
set_option linter.unusedVariables false
set_option linter.unusedSimpArgs false

def hexD (n : Nat) : UInt8 := UInt8.ofNat (if n < 10 then 48 + n else 87 + n)

def hexB : List UInt8 → List UInt8
  | [] => []
  | c :: t => hexD (c.toNat / 16) :: hexD (c.toNat % 16) :: hexB t

theorem hexB_append (a b : List UInt8) : hexB (a ++ b) = hexB a ++ hexB b := by
  induction a with
  | nil => rfl
  | cons c t ih => simp [hexB, ih]

theorem hexB_length (a : List UInt8) : (hexB a).length = 2 * a.length := by
  induction a with
  | nil => rfl
  | cons c t ih => simp [hexB, ih]; omega

theorem hexB_take (l : List UInt8) (k : Nat) (h : k < l.length) : hexB (l.take (k + 1)) = hexB (l.take k) ++ [hexD ((l[k]'h).toNat / 16), hexD ((l[k]'h).toNat % 16)] := by
  rw [List.take_add_one, List.getElem?_eq_getElem h, hexB_append]
  rfl

/-- What a digit says; 16: it is none. -/
def digN (c : UInt8) : Nat := if 48 ≤ c.toNat ∧ c.toNat ≤ 57 then c.toNat - 48 else if 97 ≤ c.toNat ∧ c.toNat ≤ 102 then c.toNat - 87 else 16

theorem digN_le (c : UInt8) : digN c ≤ 16 := by unfold digN; split <;> (try split) <;> omega

def pairs : List Nat → List UInt8
  | a :: b :: t => UInt8.ofNat (16 * a + b) :: pairs t
  | _ => []

def allDig (s : List UInt8) : Bool := s.all fun c => decide (digN c < 16)

def ofHexB (s : List UInt8) : Option (List UInt8) := if s.length % 2 = 0 ∧ allDig s = true then some (pairs (s.map digN)) else none

theorem pairs_even : ∀ (a b : List Nat), a.length % 2 = 0 → pairs (a ++ b) = pairs a ++ pairs b
  | [], b, _ => rfl
  | [_], b, h => by simp at h
  | x :: y :: t, b, h => by
    have := pairs_even t b (by simp at h; omega)
    simp [pairs, this]

theorem pairs_length : ∀ (a : List Nat), (pairs a).length = a.length / 2
  | [] => rfl
  | [_] => by simp [pairs]
  | x :: y :: t => by
    have := pairs_length t
    simp [pairs, this]
    omega

/-- What stands behind p digits, the last byte begun. -/
def halfB (s : List UInt8) (p : Nat) : List UInt8 := pairs ((s.take p).map digN ++ [0])

theorem map_take_succ (s : List UInt8) (p : Nat) (h : p < s.length) : (s.take (p + 1)).map digN = (s.take p).map digN ++ [digN (s[p]'h)] := by
  rw [List.take_add_one, List.getElem?_eq_getElem h, List.map_append]
  rfl

theorem halfB_zero (s : List UInt8) : halfB s 0 = [] := rfl

theorem halfB_even (s : List UInt8) (p : Nat) (h : p < s.length) (he : p % 2 = 0) : halfB s (p + 1) = halfB s p ++ [UInt8.ofNat (16 * digN (s[p]'h))] := by
  unfold halfB
  have hl : ((s.take p).map digN).length % 2 = 0 := by simp; omega
  rw [map_take_succ s p h, List.append_assoc, pairs_even _ _ hl, pairs_even _ _ hl]
  simp [pairs]

theorem halfB_len (s : List UInt8) (p : Nat) (h : p ≤ s.length) : (halfB s p).length = (p + 1) / 2 := by
  unfold halfB
  rw [pairs_length]
  simp
  omega

theorem halfB_odd (s : List UInt8) (p : Nat) (h : p < s.length) (ho : p % 2 = 1) :
    (halfB s p)[p / 2]? = some (UInt8.ofNat (16 * digN (s[p - 1]'(by omega)))) ∧ halfB s (p + 1) = (halfB s p).set (p / 2) (UInt8.ofNat (16 * digN (s[p - 1]'(by omega)) + digN (s[p]'h))) := by
  obtain ⟨q, rfl⟩ : ∃ q, p = q + 1 := ⟨p - 1, by omega⟩
  have hq : q < s.length := by omega
  have hl : ((s.take q).map digN).length % 2 = 0 := by simp; omega
  have hpl : (pairs ((s.take q).map digN)).length = (q + 1) / 2 := by rw [pairs_length]; simp; omega
  have e1 : halfB s (q + 1) = pairs ((s.take q).map digN) ++ [UInt8.ofNat (16 * digN (s[q]'hq))] := by
    unfold halfB
    rw [map_take_succ s q hq, List.append_assoc, pairs_even _ _ hl]
    rfl
  have e2 : halfB s (q + 1 + 1) = pairs ((s.take q).map digN) ++ [UInt8.ofNat (16 * digN (s[q]'hq) + digN (s[q + 1]'h))] := by
    unfold halfB
    rw [map_take_succ s (q + 1) h, map_take_succ s q hq, List.append_assoc, List.append_assoc, pairs_even _ _ hl]
    rfl
  simp only [Nat.add_sub_cancel]
  rw [e1, e2]
  constructor
  · rw [List.getElem?_append_right (by omega), hpl, Nat.sub_self]; rfl
  · rw [List.set_append_right _ _ (by omega), hpl, Nat.sub_self]; rfl

theorem halfB_all (s : List UInt8) (he : s.length % 2 = 0) : halfB s s.length = pairs (s.map digN) := by
  unfold halfB
  rw [List.take_of_length_le (Nat.le_refl _), pairs_even _ _ (by simpa using he)]
  simp [pairs]

theorem pairs_step (s : List UInt8) (k : Nat) (h : 2 * k + 1 < s.length) :
    pairs ((s.take (2 * (k + 1))).map digN) = pairs ((s.take (2 * k)).map digN) ++ [UInt8.ofNat (16 * digN (s[2 * k]'(by omega)) + digN (s[2 * k + 1]'h))] := by
  have hl : ((s.take (2 * k)).map digN).length % 2 = 0 := by simp; omega
  rw [show 2 * (k + 1) = 2 * k + 1 + 1 by omega, map_take_succ s (2 * k + 1) h, map_take_succ s (2 * k) (by omega), List.append_assoc, pairs_even _ _ hl]
  rfl

theorem allDig_take (s : List UInt8) (p : Nat) (h : p < s.length) (hp : allDig (s.take p) = true) (hd : digN (s[p]'h) < 16) : allDig (s.take (p + 1)) = true := by
  rw [List.take_add_one, List.getElem?_eq_getElem h]
  simp only [allDig, List.all_append, Bool.and_eq_true] at hp ⊢
  exact ⟨hp, by simpa using hd⟩

theorem ofHexB_bad (s : List UInt8) (p : Nat) (h : p < s.length) (hd : ¬ digN (s[p]'h) < 16) : ofHexB s = none := by
  unfold ofHexB
  rw [if_neg]
  rintro ⟨_, ha⟩
  simp only [allDig, List.all_eq_true, decide_eq_true_eq] at ha
  exact hd (ha _ (List.getElem_mem h))

theorem ofHexB_odd (s : List UInt8) (h : ¬ s.length % 2 = 0) : ofHexB s = none := by
  unfold ofHexB
  rw [if_neg (fun e => h e.1)]

theorem ofHexB_good (s : List UInt8) (h : s.length % 2 = 0) (ha : allDig s = true) : ofHexB s = some (pairs (s.map digN)) := by
  unfold ofHexB
  rw [if_pos ⟨h, ha⟩]

theorem or_half (a b : Nat) (ha : a < 16) (hb : b < 16) : (16 * a) ||| b = 16 * a + b := by
  have h := Nat.shiftLeft_add_eq_or_of_lt (i := 4) (b := b) (by simpa using hb) a
  rw [Nat.shiftLeft_eq, show a * 2 ^ 4 = 16 * a by omega] at h
  exact h.symm

end Go.Proofs.Ytdljpgihfjpnjaa
