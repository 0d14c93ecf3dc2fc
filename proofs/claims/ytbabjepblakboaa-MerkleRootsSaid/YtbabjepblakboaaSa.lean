/- Words of 32 bits: turning. -/
import Derived.Test.YtbabjepblakboaaBase
import Derived.Laws.Bits64b
import Derived.Laws.BitsAllLaws
import Derived.Laws.Wrap64
import Derived.Laws.ShiftsVarLaws
namespace Go.Proofs.Ytbabjepblakboaa
set_option linter.unusedVariables false
set_option linter.unusedSimpArgs false
open Go.RowKit Go.Lib

def wd (x : BitVec 32) : Value := .int .u32 (x.toNat : Int)

/-- Turned right. -/
def rr (x : BitVec 32) (n : Nat) : BitVec 32 := x >>> n ||| x <<< (32 - n)

theorem u32_ofInt (x : BitVec 32) : BitVec.ofInt 32 (x.toNat : Int) = x := by
  rw [BitVec.ofInt_natCast, BitVec.ofNat_toNat, BitVec.setWidth_eq]

theorem u32_wrap (x : BitVec 32) : IntKind.u32.wrap (x.toNat : Int) = (x.toNat : Int) := by
  have := x.isLt
  rw [IntKind.wrap_u32']
  omega

theorem or_wd (x y : BitVec 32) : bits BinOp.or IntKind.u32 (x.toNat : Int) (y.toNat : Int) = ((x ||| y).toNat : Int) := by
  show IntKind.u32.wrap ((BitVec.ofInt 32 (x.toNat : Int) ||| BitVec.ofInt 32 (y.toNat : Int)).toNat : Int) = _
  rw [u32_ofInt, u32_ofInt, u32_wrap]

theorem and_wd (x y : BitVec 32) : bits BinOp.and IntKind.u32 (x.toNat : Int) (y.toNat : Int) = ((x &&& y).toNat : Int) := by
  show IntKind.u32.wrap ((BitVec.ofInt 32 (x.toNat : Int) &&& BitVec.ofInt 32 (y.toNat : Int)).toNat : Int) = _
  rw [u32_ofInt, u32_ofInt, u32_wrap]

theorem xor_wd (x y : BitVec 32) : bits BinOp.xor IntKind.u32 (x.toNat : Int) (y.toNat : Int) = ((x ^^^ y).toNat : Int) := by
  show IntKind.u32.wrap ((BitVec.ofInt 32 (x.toNat : Int) ^^^ BitVec.ofInt 32 (y.toNat : Int)).toNat : Int) = _
  rw [u32_ofInt, u32_ofInt, u32_wrap]

theorem add_wd (x y : BitVec 32) : ((x.toNat : Int) + (y.toNat : Int)) % 4294967296 = ((x + y).toNat : Int) := by
  rw [BitVec.toNat_add]
  omega

theorem shl_wd (x : BitVec 32) (m : Nat) : (x.toNat : Int) * 2 ^ m % 4294967296 = ((x <<< m).toNat : Int) := by
  rw [BitVec.toNat_shiftLeft, Nat.shiftLeft_eq]
  rw [Int.natCast_emod, Int.natCast_mul, Int.natCast_pow]
  rfl

theorem shr_wd (x : BitVec 32) (m : Nat) : (x.toNat : Int) / 2 ^ m = ((x >>> m).toNat : Int) := by
  rw [BitVec.toNat_ushiftRight, Nat.shiftRight_eq_div_pow, Int.natCast_ediv, Int.natCast_pow]
  rfl

/-- The two halves of a turned word stand apart. -/
theorem rr_add (x : BitVec 32) (n : Nat) (h : n ≤ 32) : x >>> n + x <<< (32 - n) = rr x n := by
  unfold rr
  rw [BitVec.add_eq_or_of_and_eq_zero]
  apply BitVec.eq_of_getElem_eq
  intro i hi
  simp only [BitVec.getElem_and, BitVec.getElem_ushiftRight, BitVec.getElem_shiftLeft, BitVec.getElem_zero]
  by_cases hlt : i < 32 - n
  · simp [hlt]
  · rw [BitVec.getLsbD_of_ge _ _ (by omega)]
    simp

theorem rr_or (x : BitVec 32) (n : Nat) : x <<< (32 - n) ||| x >>> n = rr x n := BitVec.or_comm _ _

theorem mask31 : ∀ n : Fin 32, 1 ≤ n.val → bits BinOp.and IntKind.u64 (IntKind.u64.wrap (-(n.val : Int))) 31 = ((32 - n.val : Nat) : Int) := by decide +kernel

theorem rotl_any (w : World) (x : BitVec 32) (n : Nat) (hn : 1 ≤ n) (hn' : n ≤ 31) :
    Calls Try.prog 172 #[wd x, .int .i64 (-(n : Int))] w fun e w' => e = .returned (wd (rr x n)) ∧ w' = w := by
  have hm := mask31 ⟨n, by omega⟩ hn
  simp only at hm
  have h0 : (0 : Int) ≤ ((32 - n : Nat) : Int) := by omega
  have h1 : (0 : Int) ≤ 32 - ((32 - n : Nat) : Int) := by omega
  have h2 : IntKind.u64.wrap (32 - ((32 - n : Nat) : Int)) = (n : Int) := by rw [IntKind.wrap_u64]; omega
  obtain ⟨m, hmm⟩ : ∃ m, m = 32 - n := ⟨_, rfl⟩
  rw [← hmm] at hm h0 h1 h2
  unfold wd
  have hx := x.isLt
  obtain ⟨r, hr⟩ : ∃ r, r = (rr x n).toNat := ⟨_, rfl⟩
  rw [← hr]
  have Hr := Lib.hid hr
  have Hmm := Lib.hid hmm
  clear hr hmm
  obtain ⟨y, hy⟩ : ∃ y, y = x.toNat := ⟨_, rfl⟩
  rw [← hy]
  have Hy := Lib.hid hy; clear hy
  go_enter Try.func172, Try.ntmps172
  go_wp2
  go_ret
  refine ⟨?_, rfl⟩
  show Ending.returned (.int .u32 (bits BinOp.or IntKind.u32 ((y : Int) * 2 ^ m % 4294967296) ((y : Int) / 2 ^ n))) = _
  rw [Hy.out, Hr.out, Hmm.out, shl_wd, shr_wd, or_wd, rr_or]

theorem turn_any (w : World) (x : BitVec 32) (n : Nat) (hn : 1 ≤ n) (hn' : n ≤ 31) :
    Calls Try.prog 171 #[wd x, .int .i64 (n : Int)] w fun e w' => e = .returned (wd (rr x n)) ∧ w' = w := by
  have C := fun w0 => rotl_any w0 x n hn hn'
  have hw : IntKind.i64.wrap (-(n : Int)) = -(n : Int) := by
    simp [IntKind.wrap, IntKind.bits, IntKind.signed]
    omega
  go_enter Try.func171, Try.ntmps171
  go_wp2_with fail
  refine (C _).mono ?_
  rintro e w' ⟨rfl, rfl⟩
  go_wp2
  go_ret
  exact ⟨rfl, rfl⟩

theorem right_any (w : World) (x : BitVec 32) (n : Nat) (hn : 1 ≤ n) (hn' : n ≤ 31) :
    Calls Try.prog 147 #[wd x, .int .u64 (n : Int)] w fun e w' => e = .returned (wd (rr x n)) ∧ w' = w := by
  have h0 : (0 : Int) ≤ (n : Int) := by omega
  have h1 : (0 : Int) ≤ 32 - (n : Int) := by omega
  have h2 : IntKind.u64.wrap (32 - (n : Int)) = ((32 - n : Nat) : Int) := by rw [IntKind.wrap_u64]; omega
  have h3 : (0 : Int) ≤ ((32 - n : Nat) : Int) := by omega
  have hs : (x >>> n + x <<< (32 - n)).toNat = (rr x n).toNat := by rw [rr_add x n (by omega)]
  obtain ⟨m, hmm⟩ : ∃ m, m = 32 - n := ⟨_, rfl⟩
  rw [← hmm] at h2 h3 hs
  obtain ⟨r, hr⟩ : ∃ r, r = (rr x n).toNat := ⟨_, rfl⟩
  unfold wd
  rw [← hr] at hs ⊢
  have Hs := Lib.hid hs
  have Hmm := Lib.hid hmm
  clear hr hmm hs
  obtain ⟨y, hy⟩ : ∃ y, y = x.toNat := ⟨_, rfl⟩
  rw [← hy]
  have Hy := Lib.hid hy; clear hy
  go_enter Try.func147, Try.ntmps147
  go_wp2
  go_ret
  refine ⟨?_, rfl⟩
  have hm32 : min m 32 = m := by have := Hmm.out; omega
  show Ending.returned (.int .u32 (((y : Int) / 2 ^ n + ((y : Int) * 2 ^ min m 32 % 4294967296)) % 4294967296)) = _
  rw [hm32, Hy.out, shl_wd, shr_wd, add_wd, Hs.out]
end Go.Proofs.Ytbabjepblakboaa
