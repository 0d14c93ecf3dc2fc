/- Roots, primes, the constants. -/
import Derived.Test.YtbabjepblakboaaSk
import Derived.Shelf.Abstract
namespace Go.Proofs.Ytbabjepblakboaa
set_option linter.unusedVariables false
set_option linter.unusedSimpArgs false
open Go.RowKit Go.Lib

def rootStep (G : Nat → Bool) (x i : Nat) : Nat := if G (x ||| 2 ^ (35 - i)) then x else x ||| 2 ^ (35 - i)

def rootN (G : Nat → Bool) : Nat → Nat
  | 0 => 0
  | n + 1 => rootStep G (rootN G n) n

theorem rootN_lt (G : Nat → Bool) (n : Nat) (h : n ≤ 36) : rootN G n < 2 ^ 36 := by
  induction n with
  | zero => simp [rootN]
  | succ n ih =>
    have ih := ih (by omega)
    have h2 : 2 ^ (35 - n) < 2 ^ 36 := Nat.pow_lt_pow_right (by omega) (by omega)
    unfold rootN rootStep
    split
    · exact ih
    · exact Nat.or_lt_two_pow ih h2

theorem root_any (w : World) (G : Nat → Bool) (fv : FuncId) (cap : Value) (hen : ∀ args w, (callFunc fv args).run Try.prog w = .ok (.enter fv args) w)
    (C : ∀ x : Nat, x < 2 ^ 36 → Calls Try.prog fv #[.int .u64 (x : Int), cap] w fun e w' => e = .returned (.bool (G x)) ∧ w' = w) :
    Calls Try.prog 166 #[.func (.func fv) #[] #[cap]] w fun e w' => e = .returned (.int .u64 (rootN G 36 : Int)) ∧ w' = w := by
  have HC := Lib.hid C; clear C
  obtain ⟨R, hR⟩ : ∃ R, R = rootN G 36 := ⟨_, rfl⟩
  rw [← hR]
  have HR := Lib.hid hR; clear hR
  go_enter Try.func166, Try.ntmps166
  go_wp2
  go_loopw [3, 6] (fun v3 v6 wr => wr = w ∧ ∃ k : Nat, k ≤ 36 ∧ v6 = .int .i64 (k : Int) ∧ v3 = .int .u64 (rootN G k : Int))
    (fun _ v _ => 36 - (intOf v).toNat)
  case atStart => exact ⟨rfl, 0, by omega, rfl, rfl⟩
  case round =>
    obtain ⟨rfl, k, hk, rfl, rfl⟩ := hrel
    by_cases hlt : k < 36
    · obtain ⟨x, hx⟩ : ∃ x, x = rootN G k := ⟨_, rfl⟩
      obtain ⟨e, he⟩ : ∃ e, e = 35 - k := ⟨_, rfl⟩
      obtain ⟨Z, hZ⟩ : ∃ Z, Z = 2 ^ e := ⟨_, rfl⟩
      obtain ⟨Y, hY⟩ : ∃ Y, Y = x ||| Z := ⟨_, rfl⟩
      have hx36 : x < 2 ^ 36 := by rw [hx]; exact rootN_lt G k hk
      have hz36 : Z < 2 ^ 36 := by rw [hZ]; exact Nat.pow_lt_pow_right (by omega) (by omega)
      have hy36 : Y < 2 ^ 36 := by rw [hY]; exact Nat.or_lt_two_pow hx36 hz36
      have g1 : IntKind.i64.wrap (35 - (k : Int)) = (e : Int) := by rw [IntKind.wrap_i64]; omega
      have g2 : IntKind.u64.wrap (2 ^ min e 64) = (Z : Int) := by
        have : min e 64 = e := by omega
        rw [this, hZ, IntKind.wrap_u64]
        have h3 : ((2 ^ e : Nat) : Int) = 2 ^ e := by simp
        rw [← h3]
        rw [← hZ]
        omega
      have g3 : bits BinOp.or IntKind.u64 (x : Int) (Z : Int) = (Y : Int) := by
        rw [bits_or_u64_nat _ _ (by omega) (by omega), hY]
      have g4 : (0 : Int) ≤ (e : Int) := by omega
      rw [← hx]
      have CY := HC.out Y hy36
      have E := Lib.hid (And.intro hx (And.intro he (And.intro hZ hY)))
      clear hx he hZ hY hx36 hz36 hy36
      cases hg : G Y
      · rw [hg] at CY
        have HG := Lib.hid hg; clear hg
        go_wp2_with fail
        refine CY.mono ?_
        rintro e' w' ⟨rfl, rfl⟩
        go_wp2
        go_roundw
        case rel =>
          refine ⟨trivial, k + 1, by omega, by go_num, ?_⟩
          obtain ⟨hx, he, hZ, hY⟩ := E.out
          have : rootN G (k + 1) = Y := by
            show rootStep G (rootN G k) k = Y
            unfold rootStep
            rw [← hx, ← he, ← hZ, ← hY, HG.out]
            rfl
          rw [this]
        case measure =>
          simp only [intOf]
          omega
      · rw [hg] at CY
        have HG := Lib.hid hg; clear hg
        go_wp2_with fail
        refine CY.mono ?_
        rintro e' w' ⟨rfl, rfl⟩
        go_wp2
        go_roundw
        case rel =>
          refine ⟨trivial, k + 1, by omega, by go_num, ?_⟩
          obtain ⟨hx, he, hZ, hY⟩ := E.out
          have : rootN G (k + 1) = x := by
            show rootStep G (rootN G k) k = x
            unfold rootStep
            rw [← hx, ← he, ← hZ, ← hY, HG.out]
            rfl
          rw [this]
        case measure =>
          simp only [intOf]
          omega
    · have hk36 : k = 36 := by omega
      have HK := Lib.hid hk36; clear hk36
      go_wp2
      go_ret
      refine ⟨?_, rfl⟩
      rw [HR.out, ← HK.out]
      rfl

theorem cell0_alloc (w : World) (x : Value) (t : TypeId) : (w.alloc (.cells #[x] t)).cell? ⟨w.heap.size, 0, none⟩ = some x :=
  CB.cell (CB.new w t [x]) 0 x rfl

theorem square_any (w : World) (p : Nat) :
    Calls Try.prog 164 #[.int .u64 (p : Int)] w fun e w' => e = .returned (wd (BitVec.ofNat 32 (rootN (sqG p) 36))) ∧ Below w.heap.size w w' := by
  go_enter Try.func164, Try.ntmps164
  go_wp2_with fail
  refine (root_any _ (sqG p) 170 _ (enters_of Try.func170 (by kernel_rfl) rfl) (fun x hx => sqG_any _ w.heap.size p x (by omega) ?_)).mono ?_
  · exact cell0_alloc _ _ _
  rintro e w' ⟨rfl, rfl⟩
  go_wp2
  go_ret
  refine ⟨?_, (Below.refl _ w).alloc (Nat.le_refl _) _⟩
  unfold wd
  rw [BitVec.toNat_ofNat]
  rfl

theorem cube_any (w : World) (p : Nat) (hp : p < 4294967296) :
    Calls Try.prog 163 #[.int .u64 (p : Int)] w fun e w' => e = .returned (wd (BitVec.ofNat 32 (rootN (cuG p) 36))) ∧ Below w.heap.size w w' := by
  go_enter Try.func163, Try.ntmps163
  go_wp2_with fail
  refine (root_any _ (cuG p) 167 _ (enters_of Try.func167 (by kernel_rfl) rfl) (fun x hx => cuG_any _ w.heap.size p x (by omega) hp ?_)).mono ?_
  · exact cell0_alloc _ _ _
  rintro e w' ⟨rfl, rfl⟩
  go_wp2
  go_ret
  refine ⟨?_, (Below.refl _ w).alloc (Nat.le_refl _) _⟩
  unfold wd
  rw [BitVec.toNat_ofNat]
  rfl
end Go.Proofs.Ytbabjepblakboaa
