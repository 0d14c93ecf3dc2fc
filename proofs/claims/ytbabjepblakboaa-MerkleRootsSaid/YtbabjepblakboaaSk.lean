/- Long products, and the tests of roots. -/
import Derived.Test.YtbabjepblakboaaSs
import Derived.Lib.Mul64
import Derived.Shelf.Bits.Mul64
import Derived.Laws.Externs
import Derived.WalkKit
namespace Go.Proofs.Ytbabjepblakboaa
set_option linter.unusedVariables false
set_option linter.unusedSimpArgs false
open Go.RowKit Go.Lib

set_option maxHeartbeats 1000000 in
theorem mul64_any (w : World) (x y : Nat) (hx : x < 18446744073709551616) (hy : y < 18446744073709551616) :
    Calls Try.prog 168 #[.int .u64 x, .int .u64 y] w fun e w' => e = .returned (.tuple #[.int .u64 ((x * y / 18446744073709551616 : Nat) : Int), .int .u64 ((x * y % 18446744073709551616 : Nat) : Int)]) ∧ w' = w := by
  obtain ⟨bd, bt, bw, hhi⟩ := Lib.mul64_hi x y hx hy
  have ba := Lib.half_mul_le (a := x / 4294967296) (b := y / 4294967296) (by omega) (by omega)
  have bb := Lib.half_mul_le (a := x / 4294967296) (b := y % 4294967296) (by omega) (by omega)
  have bc := Lib.half_mul_le (a := x % 4294967296) (b := y / 4294967296) (by omega) (by omega)
  have ba' : x / 4294967296 * (y / 4294967296) < 18446744073709551616 := by omega
  have bb' : x / 4294967296 * (y % 4294967296) < 18446744073709551616 := by omega
  have bc' : x % 4294967296 * (y / 4294967296) < 18446744073709551616 := by omega
  have bh1 : x / 4294967296 * (y / 4294967296) + (x / 4294967296 * (y % 4294967296) + x % 4294967296 * (y % 4294967296) / 4294967296) / 4294967296 < 18446744073709551616 := by omega
  have bh : x / 4294967296 * (y / 4294967296) + (x / 4294967296 * (y % 4294967296) + x % 4294967296 * (y % 4294967296) / 4294967296) / 4294967296 + ((x / 4294967296 * (y % 4294967296) + x % 4294967296 * (y % 4294967296) / 4294967296) % 4294967296 + x % 4294967296 * (y / 4294967296)) / 4294967296 < 18446744073709551616 := by omega
  go_enter Try.func168, Try.ntmps168
  go_wp2
  simp only [Go.Proofs.Mul64.maskN x hx, Go.Proofs.Mul64.maskN y hy, Go.Proofs.Mul64.divN, Go.Proofs.Mul64.mulN, Go.Proofs.Mul64.addN, Go.Proofs.Mul64.wrapN _ bd, Go.Proofs.Mul64.wrapN _ bb', Go.Proofs.Mul64.wrapN _ bt, Go.Proofs.Mul64.maskN _ bt, Go.Proofs.Mul64.wrapN _ bc', Go.Proofs.Mul64.wrapN _ bw, Go.Proofs.Mul64.wrapN _ ba', Go.Proofs.Mul64.wrapN _ bh1, Go.Proofs.Mul64.wrapN _ bh, Go.Proofs.Mul64.wrapM (x * y)]
  rw [hhi]
  go_ret2
  exact ⟨rfl, rfl⟩

theorem add64_run (x y : Nat) (w : World) :
    (callFunc 169 #[.int .u64 (x : Int), .int .u64 (y : Int), .int .u64 0]).run Try.prog w =
      .ok (.value (.tuple #[.int .u64 (((x + y) % 18446744073709551616 : Nat) : Int), .int .u64 (((x + y) / 18446744073709551616 : Nat) : Int)])) w := by
  rw [run_callFunc_extern Try.func169 (by kernel_rfl) (by kernel_rfl) (by kernel_rfl) (e := add64Entry) (by kernel_rfl), run_add64 x y 0 (by omega) (by omega) (by omega) (by omega)]
  rfl

/-- Is x too great for the square root of p? -/
def sqG (p x : Nat) : Bool := decide (p < x * x / 18446744073709551616) || (decide (x * x / 18446744073709551616 = p) && decide (0 < x * x % 18446744073709551616))

theorem sqG_any (w : World) (b p x : Nat) (hx : x < 18446744073709551616) (hp : w.cell? ⟨b, 0, none⟩ = some (.int .u64 (p : Int))) :
    Calls Try.prog 170 #[.int .u64 (x : Int), .pointer (some ⟨b, 0, none⟩)] w fun e w' => e = .returned (.bool (sqG p x)) ∧ w' = w := by
  have C := fun w0 => mul64_any w0 x x hx hx
  unfold sqG
  obtain ⟨H, hH⟩ : ∃ H, H = x * x / 18446744073709551616 := ⟨_, rfl⟩
  obtain ⟨L, hL⟩ : ∃ L, L = x * x % 18446744073709551616 := ⟨_, rfl⟩
  rw [← hH, ← hL] at C ⊢
  clear hH hL
  by_cases h1 : p < H
  · have h1' : (p : Int) < (H : Int) := by omega
    have hb1 : decide (p < H) = true := by simpa using h1
    rw [hb1]
    go_enter Try.func170, Try.ntmps170
    go_wp2_with fail
    refine (C _).mono ?_
    rintro e w' ⟨rfl, rfl⟩
    go_wp2
    go_ret
    exact ⟨rfl, rfl⟩
  · have h1' : ¬ ((p : Int) < (H : Int)) := by omega
    have hb1 : decide (p < H) = false := by simpa using h1
    rw [hb1]
    by_cases h2 : H = p
    · have h2' : (H : Int) = (p : Int) := by omega
      have hb2 : decide (H = p) = true := by simpa using h2
      rw [hb2]
      subst h2
      clear h2' hb2
      go_enter Try.func170, Try.ntmps170
      go_wp2_with fail
      refine (C _).mono ?_
      rintro e w' ⟨rfl, rfl⟩
      go_wp2
      go_ret
      exact ⟨by simp, rfl⟩
    · have h2' : ¬ ((H : Int) = (p : Int)) := by omega
      have hb2 : decide (H = p) = false := by simpa using h2
      rw [hb2]
      go_enter Try.func170, Try.ntmps170
      go_wp2_with fail
      refine (C _).mono ?_
      rintro e w' ⟨rfl, rfl⟩
      go_wp2
      go_ret
      exact ⟨rfl, rfl⟩

/-- Is x too great for the cube root of p? -/
def cuC (x : Nat) : Nat := (x * x / 18446744073709551616 * x / 18446744073709551616 + (x * x % 18446744073709551616 * x / 18446744073709551616 + x * x / 18446744073709551616 * x % 18446744073709551616) / 18446744073709551616) % 18446744073709551616
def cuM (x : Nat) : Nat := (x * x % 18446744073709551616 * x / 18446744073709551616 + x * x / 18446744073709551616 * x % 18446744073709551616) % 18446744073709551616
def cuB (x : Nat) : Nat := x * x % 18446744073709551616 * x % 18446744073709551616
def cuG (p x : Nat) : Bool := decide (0 < cuC x) || (decide (p * 4294967296 < cuM x) || (decide (cuM x = p * 4294967296) && decide (0 < cuB x)))

set_option maxHeartbeats 1000000 in
theorem cuG_any (w : World) (b p x : Nat) (hx : x < 18446744073709551616) (hpp : p < 4294967296) (hp : w.cell? ⟨b, 0, none⟩ = some (.int .u64 (p : Int))) :
    Calls Try.prog 167 #[.int .u64 (x : Int), .pointer (some ⟨b, 0, none⟩)] w fun e w' => e = .returned (.bool (cuG p x)) ∧ w' = w := by
  have C1 := fun w0 => mul64_any w0 x x hx hx
  have C2 := fun w0 => mul64_any w0 (x * x % 18446744073709551616) x (by omega) hx
  have C3 := fun w0 => mul64_any w0 (x * x / 18446744073709551616) x (by have := Nat.mul_lt_mul'' hx hx; omega) hx
  have C4 := fun w0 => add64_run (x * x % 18446744073709551616 * x / 18446744073709551616) (x * x / 18446744073709551616 * x % 18446744073709551616) w0
  obtain ⟨V, hV⟩ : ∃ V, V = cuG p x := ⟨_, rfl⟩
  rw [← hV]
  unfold cuG cuC cuM cuB at hV
  obtain ⟨H, hH⟩ : ∃ H, H = x * x / 18446744073709551616 := ⟨_, rfl⟩
  obtain ⟨L, hL⟩ : ∃ L, L = x * x % 18446744073709551616 := ⟨_, rfl⟩
  rw [← hH, ← hL] at C1 hV C4
  rw [← hL] at C2
  rw [← hH] at C3
  obtain ⟨a, ha⟩ : ∃ v, v = L * x / 18446744073709551616 := ⟨_, rfl⟩
  obtain ⟨y, hy⟩ : ∃ v, v = L * x % 18446744073709551616 := ⟨_, rfl⟩
  obtain ⟨c, hc⟩ : ∃ v, v = H * x / 18446744073709551616 := ⟨_, rfl⟩
  obtain ⟨d, hd⟩ : ∃ v, v = H * x % 18446744073709551616 := ⟨_, rfl⟩
  rw [← ha, ← hy] at C2
  rw [← hc, ← hd] at C3
  rw [← ha, ← hd] at C4
  rw [← ha, ← hc, ← hd, ← hy] at hV
  obtain ⟨M, hM⟩ : ∃ v, v = (a + d) % 18446744073709551616 := ⟨_, rfl⟩
  obtain ⟨K, hK⟩ : ∃ v, v = (a + d) / 18446744073709551616 := ⟨_, rfl⟩
  rw [← hM, ← hK] at C4 hV
  obtain ⟨T, hT⟩ : ∃ v, v = (c + K) % 18446744073709551616 := ⟨_, rfl⟩
  obtain ⟨Q, hQ⟩ : ∃ v, v = p * 4294967296 := ⟨_, rfl⟩
  rw [← hT, ← hQ] at hV
  have gT : IntKind.u64.wrap ((c : Int) + (K : Int)) = (T : Int) := by rw [IntKind.wrap_u64]; omega
  have gQ : IntKind.u64.wrap ((p : Int) * 4294967296) = (Q : Int) := by rw [IntKind.wrap_u64]; omega
  have gP : (p : Int) / 4294967296 = 0 := by omega
  clear hH hL ha hy hc hd hM hK hT hQ
  have HV := Lib.hid hV; clear hV
  by_cases h1 : 0 < T
  · have h1' : (0 : Int) < (T : Int) := by omega
    have E : Hid (V = true) := by refine Lib.hid ?_; rw [HV.out]; simp [h1]
    go_enter Try.func167, Try.ntmps167
    go_wp2_with fail
    refine (C1 _).mono ?_
    rintro e w' ⟨rfl, rfl⟩
    go_wp2_with fail
    refine (C2 _).mono ?_
    rintro e w' ⟨rfl, rfl⟩
    go_wp2_with fail
    refine (C3 _).mono ?_
    rintro e w' ⟨rfl, rfl⟩
    go_wp2_with (simp only [C4])
    go_wp2
    go_ret
    exact ⟨by rw [E.out]; rfl, rfl⟩
  · have h1' : (T : Int) = 0 := by omega
    have h0 : T = 0 := by omega
    subst h0
    by_cases h2 : Q < M
    · have h2' : (Q : Int) < (M : Int) := by omega
      have E : Hid (V = true) := by refine Lib.hid ?_; rw [HV.out]; simp [h2]
      clear h1'
      go_enter Try.func167, Try.ntmps167
      go_wp2_with fail
      refine (C1 _).mono ?_
      rintro e w' ⟨rfl, rfl⟩
      go_wp2_with fail
      refine (C2 _).mono ?_
      rintro e w' ⟨rfl, rfl⟩
      go_wp2_with fail
      refine (C3 _).mono ?_
      rintro e w' ⟨rfl, rfl⟩
      go_wp2_with (simp only [C4])
      go_wp2
      go_ret
      exact ⟨by rw [E.out]; rfl, rfl⟩
    · have h2' : ¬ ((Q : Int) < (M : Int)) := by omega
      by_cases h3 : M = Q
      · have h3' : (M : Int) = (Q : Int) := by omega
        have E : Hid (V = decide (0 < y)) := by refine Lib.hid ?_; rw [HV.out]; simp [h3]
        subst h3
        clear h3' h1' 
        go_enter Try.func167, Try.ntmps167
        go_wp2_with fail
        refine (C1 _).mono ?_
        rintro e w' ⟨rfl, rfl⟩
        go_wp2_with fail
        refine (C2 _).mono ?_
        rintro e w' ⟨rfl, rfl⟩
        go_wp2_with fail
        refine (C3 _).mono ?_
        rintro e w' ⟨rfl, rfl⟩
        go_wp2_with (simp only [C4])
        go_wp2
        go_ret
        exact ⟨by rw [E.out]; rfl, rfl⟩
      · have h3' : ¬ ((M : Int) = (Q : Int)) := by omega
        have E : Hid (V = false) := by refine Lib.hid ?_; rw [HV.out]; simp [h2, h3]
        clear h1'
        go_enter Try.func167, Try.ntmps167
        go_wp2_with fail
        refine (C1 _).mono ?_
        rintro e w' ⟨rfl, rfl⟩
        go_wp2_with fail
        refine (C2 _).mono ?_
        rintro e w' ⟨rfl, rfl⟩
        go_wp2_with fail
        refine (C3 _).mono ?_
        rintro e w' ⟨rfl, rfl⟩
        go_wp2_with (simp only [C4])
        go_wp2
        go_ret
        exact ⟨by rw [E.out]; rfl, rfl⟩
end Go.Proofs.Ytbabjepblakboaa
