/- ShaTables: what the tables come to, reckoned. -/
import Derived.Test.YtdljpgihfjpnjaaSfi
namespace Go.Proofs.Ytdljpgihfjpnjaa
open Go.RowKit Go.Lib
set_option linter.unusedVariables false
set_option linter.unusedSimpArgs false

def icb (p : Nat) : Nat := ((List.range 8).filter (fun k => k * k * k ≤ p)).length - 1
def isq (p : Nat) : Nat := ((List.range 8).filter (fun k => k * k ≤ p)).length - 1

def wholeOk (p pw K : Nat) : Bool := (List.range K).all (fun k => powB (dgF 4 (k + 1)) pw 0 p) && !powB (dgF 4 (K + 1)) pw 0 p

theorem wholeOk_parts {p pw K : Nat} (h : wholeOk p pw K = true) : (∀ k, k < K → powB (dgF 4 (k + 1)) pw 0 p = true) ∧ powB (dgF 4 (K + 1)) pw 0 p = false := by
  unfold wholeOk at h
  simp only [Bool.and_eq_true, List.all_eq_true, List.mem_range, Bool.not_eq_true'] at h
  exact h

theorem cubes_whole : (List.range 64).all (fun i => wholeOk (primes64.getD i 0) 3 (icb (primes64.getD i 0))) = true := by decide +kernel
theorem cubes_fit : (List.range 64).all (fun i => fitB (primes64.getD i 0) (KS.getD i 0).toNat 3 (icb (primes64.getD i 0))) = true := by decide +kernel
theorem squares_whole : (List.range 8).all (fun i => wholeOk (primes64.getD i 0) 2 (isq (primes64.getD i 0))) = true := by decide +kernel
theorem squares_fit : (List.range 8).all (fun i => fitB (primes64.getD i 0) (S0.l.getD i 0).toNat 2 (isq (primes64.getD i 0))) = true := by decide +kernel
theorem primes_small : (List.range 64).all (fun i => decide (primes64.getD i 0 < 400 ∧ icb (primes64.getD i 0) ≤ 100 ∧ isq (primes64.getD i 0) ≤ 100)) = true := by decide +kernel
theorem pr310 : pr 310 = primes64 := by rw [pr64]; decide +kernel

theorem cubes_at {i : Nat} (h : i < 64) : wholeOk (primes64.getD i 0) 3 (icb (primes64.getD i 0)) = true ∧ fitB (primes64.getD i 0) (KS.getD i 0).toNat 3 (icb (primes64.getD i 0)) = true := by
  have h1 := cubes_whole
  have h2 := cubes_fit
  rw [List.all_eq_true] at h1 h2
  exact ⟨h1 i (List.mem_range.2 h), h2 i (List.mem_range.2 h)⟩
theorem squares_at {i : Nat} (h : i < 8) : wholeOk (primes64.getD i 0) 2 (isq (primes64.getD i 0)) = true ∧ fitB (primes64.getD i 0) (S0.l.getD i 0).toNat 2 (isq (primes64.getD i 0)) = true := by
  have h1 := squares_whole
  have h2 := squares_fit
  rw [List.all_eq_true] at h1 h2
  exact ⟨h1 i (List.mem_range.2 h), h2 i (List.mem_range.2 h)⟩
theorem small_at {i : Nat} (h : i < 64) : primes64.getD i 0 < 400 ∧ icb (primes64.getD i 0) ≤ 100 ∧ isq (primes64.getD i 0) ≤ 100 := by
  have h1 := primes_small
  rw [List.all_eq_true] at h1
  exact of_decide_eq_true (h1 i (List.mem_range.2 h))

/-- A constant fits its prime: the call. -/
theorem cube_call (w : World) {i : Nat} (h : i < 64) :
    Calls Try.prog 43 #[.int .u64 ((primes64.getD i 0 : Nat) : Int), wd (KS.getD i 0), .int .i64 3] w fun e w' => e = .returned (.bool true) ∧ Below w.heap.size w w' := by
  have h1 := cubes_at h
  have h2 := small_at h
  have h3 := wholeOk_parts h1.1
  have h4 := fits_any w (primes64.getD i 0) (KS.getD i 0).toNat 3 (icb (primes64.getD i 0)) (by omega) (KS.getD i 0).isLt (by omega) (by omega) h2.2.1 h3.1 h3.2
  rw [h1.2] at h4
  exact h4
theorem square_call (w : World) {i : Nat} (h : i < 8) :
    Calls Try.prog 43 #[.int .u64 ((primes64.getD i 0 : Nat) : Int), wd (S0.l.getD i 0), .int .i64 2] w fun e w' => e = .returned (.bool true) ∧ Below w.heap.size w w' := by
  have h1 := squares_at h
  have h2 := small_at (show i < 64 by omega)
  have h3 := wholeOk_parts h1.1
  have h4 := fits_any w (primes64.getD i 0) (S0.l.getD i 0).toNat 2 (isq (primes64.getD i 0)) (by omega) (S0.l.getD i 0).isLt (by omega) (by omega) h2.2.2 h3.1 h3.2
  rw [h1.2] at h4
  exact h4
theorem cube_const (w : World) {i : Nat} (h : i < 64) : Calls Try.prog 44 #[.int .i64 (i : Int)] w fun e w' => e = .returned (wd (KS.getD i 0)) ∧ Below w.heap.size w w' := by
  have h1 := constI_any w (i : Int)
  rw [if_pos (by omega)] at h1
  exact h1
theorem square_start (w : World) {i : Nat} (h : i < 8) : Calls Try.prog 45 #[.int .i64 (i : Int)] w fun e w' => e = .returned (wd (S0.l.getD i 0)) ∧ Below w.heap.size w w' := by
  have h1 := startI_any w (i : Int)
  rw [if_pos (by omega)] at h1
  exact h1
theorem start8 (w : World) : Calls Try.prog 45 #[.int .i64 8] w fun e w' => e = .returned (.int .u32 0) ∧ Below w.heap.size w w' := by
  have h1 := startI_any w 8
  rw [if_neg (by omega)] at h1
  exact h1
theorem startM (w : World) : Calls Try.prog 45 #[.int .i64 (-1)] w fun e w' => e = .returned (.int .u32 0) ∧ Below w.heap.size w w' := by
  have h1 := startI_any w (-1)
  rw [if_neg (by omega)] at h1
  exact h1
theorem const64 (w : World) : Calls Try.prog 44 #[.int .i64 64] w fun e w' => e = .returned (.int .u32 0) ∧ Below w.heap.size w w' := by
  have h1 := constI_any w 64
  rw [if_neg (by omega)] at h1
  exact h1
end Go.Proofs.Ytdljpgihfjpnjaa
