/- Contracts of package wire's writer, its parts. -/
import Derived.Test.YtkbahhnjoidhcaaProg
import Derived.Test.YtkbahhnjoidhcaaG1
import Derived.Test.YtkbahhnjoidhcaaWa
namespace Go.Proofs.Ytkbahhnjoidhcaa
set_option linter.unusedVariables false
set_option linter.unusedSimpArgs false
open Go.RowKit

/-- What a number's bytes are, if it has room. -/
def numB (m : Nat) (s : Int) : Option (List UInt8) := if okSize s = true ∧ m < 2 ^ (8 * s.toNat) then some (le m s.toNat) else none

/-- Put bytes, or nothing: then it fails. -/
def wput (st : Option (List UInt8)) (y : Option (List UInt8)) : Option (List UInt8) := st.bind fun xs => y.map (xs ++ ·)

theorem wput_some (st : Option (List UInt8)) (y : List UInt8) : wput st (some y) = st.map (· ++ y) := by cases st <;> rfl
theorem wput_none (st : Option (List UInt8)) : wput st none = none := by cases st <;> rfl

theorem okSize_nat {s : Int} (h : okSize s = true) : ∃ k : Nat, s = k ∧ k ≤ 8 := by
  simp [okSize] at h
  exact ⟨s.toNat, by omega, by omega⟩

theorem okSize_cases {s : Int} (h : okSize s = true) : s = 1 ∨ s = 2 ∨ s = 4 ∨ s = 8 := by
  simp [okSize] at h; omega

set_option maxRecDepth 100000 in
set_option maxHeartbeats 400000 in
theorem Number_any (w : World) (B b : Nat) (st : Option (List UInt8)) (h : IsW w B b st) (m : Nat) (hm : m < 18446744073709551616) (s : Int) (hn : ∀ xs, st = some xs → xs.length + 8 ≤ 1099511627776) :
    Calls Try.prog 84 #[.pointer (some ⟨b, 0, none⟩), .int .u64 (m : Int), .int .i64 s] w fun e w' => e = .returned (.pointer (some ⟨b, 0, none⟩)) ∧ IsW w' B b (wput st (numB m s)) ∧ MW b w w' := by
  have hB := h.1
  cases hs : okSize s with
  | false =>
    go_enter Try.func84, Try.ntmps84
    go_wp2_with fail
    refine (whole_any s w).mono ?_
    rintro e w' ⟨rfl, rfl⟩
    go_wp2_with fail
    refine (put_no w B b st h _ false (by simp)).mono ?_
    rintro e w' ⟨rfl, h1, h2⟩
    go_wp2
    go_ret
    exact ⟨rfl, by rw [show numB m s = none by simp [numB, hs], wput_none]; exact h1, h2⟩
  | true =>
    by_cases hlt : m < 2 ^ (8 * s.toNat)
    · have fin : numB m s = some (le m s.toNat) := by simp [numB, hs, hlt]
      rcases okSize_cases hs with rfl | rfl | rfl | rfl
      all_goals
        simp only [Int.reduceToNat, Nat.reduceMul, Nat.reducePow] at hlt
        have H := Lib.hid hs; clear hs
        go_enter Try.func84, Try.ntmps84
        go_wp2_with fail
        refine (whole_any _ w).mono ?_
        rintro e w' ⟨rfl, rfl⟩
        rw [H.out]
        go_wp2_with fail
        refine (number_any w m _ (by decide) (by decide)).mono ?_
        rintro e w' ⟨rfl, hbb, hbl⟩
        have hrd := hbb.rdAll (by simp [maxLen])
        simp only [le_length] at hrd
        have h2 := h.fresh hbl
        have Hbl := Lib.hid hbl; clear hbl
        go_wp2_with fail
        refine (put_any w' B b st (le m _) h2 _ (by simpa using hrd) (fun xs e => by have := hn xs e; simp; omega)).mono ?_
        rintro e w' ⟨rfl, h3, h4⟩
        go_wp2
        go_ret
        exact ⟨rfl, by rw [fin, wput_some]; exact h3, (MW.fresh h.lt Hbl.out).trans h4⟩
    · have fin : numB m s = none := by simp [numB, hlt]
      rcases okSize_cases hs with rfl | rfl | rfl | rfl
      all_goals
        simp only [Int.reduceToNat, Nat.reduceMul, Nat.reducePow] at hlt
        have H := Lib.hid hs; clear hs
        first
          | omega
          | go_enter Try.func84, Try.ntmps84
            go_wp2_with fail
            refine (whole_any _ w).mono ?_
            rintro e w' ⟨rfl, rfl⟩
            rw [H.out]
            go_wp2_with fail
            refine (put_no w B b st h _ false (by simp)).mono ?_
            rintro e w' ⟨rfl, h1, h2⟩
            go_wp2
            go_ret
            exact ⟨rfl, by rw [fin, wput_none]; exact h1, h2⟩

def lenOk (st : Option (List UInt8)) (n : Nat) : Prop := ∀ xs, st = some xs → xs.length + n ≤ 1099511627776

/-- What a blob's bytes are, if it is not too long. -/
def blobB (ys : List UInt8) : Option (List UInt8) := if ys.length ≤ 16777216 then some (le ys.length 4 ++ ys) else none

def countB (n : Int) : Option (List UInt8) := if 0 ≤ n ∧ n ≤ 65535 then some (le n.toNat 2) else none

theorem numB_ok (m : Nat) (s : Int) (hs : okSize s = true) (hm : m < 2 ^ (8 * s.toNat)) : numB m s = some (le m s.toNat) := by simp [numB, hs, hm]

set_option maxRecDepth 100000 in
set_option maxHeartbeats 400000 in
theorem Count_any (w : World) (B b : Nat) (st : Option (List UInt8)) (h : IsW w B b st) (n : Int) (hn : lenOk st 8) :
    Calls Try.prog 70 #[.pointer (some ⟨b, 0, none⟩), .int .i64 n] w fun e w' => e = .returned (.pointer (some ⟨b, 0, none⟩)) ∧ IsW w' B b (wput st (countB n)) ∧ MW b w w' := by
  by_cases hc : 0 ≤ n ∧ n ≤ 65535
  · obtain ⟨h0, h1⟩ := hc
    obtain ⟨m, rfl⟩ := Int.eq_ofNat_of_zero_le h0
    have hd0 : decide ((m : Int) < 0) = false := by simp
    have hd1 : decide ((65535 : Int) < (m : Int)) = false := by simp; omega
    have fin : countB (m : Int) = some (le m 2) := by simp only [countB, Int.toNat_natCast]; rw [if_pos ⟨h0, h1⟩]
    go_enter Try.func70, Try.ntmps70
    go_wp2_with fail
    refine (Number_any w B b st h m (by omega) 2 hn).mono ?_
    rintro e w' ⟨rfl, h2, h3⟩
    go_wp2
    go_ret
    exact ⟨rfl, by rw [fin]; rw [numB_ok m 2 rfl (by simp <;> omega)] at h2; exact h2, h3⟩
  · have fin : countB n = none := by simp [countB, hc]
    have hor : n < 0 ∨ 65535 < n := by omega
    rcases hor with hor | hor
    · go_enter Try.func70, Try.ntmps70
      go_wp2_with fail
      refine (put_no w B b st h _ false (by simp)).mono ?_
      rintro e w' ⟨rfl, h1, h2⟩
      go_wp2
      go_ret
      exact ⟨rfl, by rw [fin, wput_none]; exact h1, h2⟩
    · have hd : decide (n < 0) = false := by simp; omega
      go_enter Try.func70, Try.ntmps70
      go_wp2_with fail
      refine (put_no w B b st h _ false (by simp)).mono ?_
      rintro e w' ⟨rfl, h1, h2⟩
      go_wp2
      go_ret
      exact ⟨rfl, by rw [fin, wput_none]; exact h1, h2⟩

theorem wput_wput (st : Option (List UInt8)) (a c : List UInt8) : wput (wput st (some a)) (some c) = wput st (some (a ++ c)) := by
  cases st <;> simp [wput]

set_option maxRecDepth 100000 in
set_option maxHeartbeats 400000 in
theorem Hash_any (w : World) (B b : Nat) (st : Option (List UInt8)) (h : IsW w B b st) (x : List UInt8) (hx : x.length = 32) (hn : lenOk st 32) :
    Calls Try.prog 83 #[.pointer (some ⟨b, 0, none⟩), .agg (bvs x).toArray] w fun e w' => e = .returned (.pointer (some ⟨b, 0, none⟩)) ∧ IsW w' B b (wput st (some x)) ∧ MW b w w' := by
  go_enter Try.func83, Try.ntmps83
  go_wp2_with fail
  have hb1 := BB.new w 24 x
  have hbl : Below w.heap.size w (w.alloc (.cells (bvs x).toArray 24)) := (Below.refl _ w).alloc (Nat.le_refl _) _
  have hr := hb1.rdAll (by simp [maxLen]; omega)
  rw [hx] at hr
  refine (put_any _ B b st x (h.fresh hbl) _ (by rw [hx]; exact hr) (by rw [hx]; exact hn)).mono ?_
  rintro e w' ⟨rfl, h1, h2⟩
  go_wp2
  go_ret
  exact ⟨rfl, by rw [wput_some]; exact h1, (MW.fresh h.lt hbl).trans h2⟩

theorem End_nil (w : World) : Calls Try.prog 71 #[.pointer none] w fun e w' => e = .returned (.tuple #[.slice none 0 0, .int .i64 1]) ∧ w = w' := by
  go_enter Try.func71, Try.ntmps71
  go_wp2
  go_ret2
  exact ⟨rfl, rfl⟩

theorem End_bad (w : World) (B b : Nat) (h : IsW w B b none) :
    Calls Try.prog 71 #[.pointer (some ⟨b, 0, none⟩)] w fun e w' => e = .returned (.tuple #[.slice none 0 0, .int .i64 2]) ∧ w = w' := by
  obtain ⟨hB, v, xs, hb, hown, _⟩ := h
  have hc1 : w.cell? ⟨b, 1, none⟩ = some (.bool true) := by simp [World.cell?, hb]
  clear hb hown
  go_enter Try.func71, Try.ntmps71
  go_wp2
  go_ret2
  exact ⟨rfl, rfl⟩

theorem End_good (w : World) (B b : Nat) (xs : List UInt8) (h : IsW w B b (some xs)) (hn : xs.length ≤ 1099511627776) :
    Calls Try.prog 71 #[.pointer (some ⟨b, 0, none⟩)] w fun e w' => ∃ v', e = .returned (.tuple #[v', .int .i64 0]) ∧ w'.ownsRow w.heap.size 5 1 v' xs.length (bvs xs) ∧ Below w.heap.size w w' := by
  obtain ⟨hB, v, xs', hb, hown, hx⟩ := h
  obtain rfl := hx xs rfl
  have hc0 : w.cell? ⟨b, 0, none⟩ = some v := by simp [World.cell?, hb]
  have hc1 : w.cell? ⟨b, 1, none⟩ = some (.bool false) := by simp [World.cell?, hb]
  clear hb
  go_enter Try.func71, Try.ntmps71
  go_wp2_with fail
  refine (clone_any w v xs' (Rd.of_own hown) hn).mono ?_
  rintro e w' ⟨v', rfl, h1, h2, h3⟩
  go_wp2
  go_ret2
  exact ⟨v', rfl, h1, h3⟩

end Go.Proofs.Ytkbahhnjoidhcaa
