/- The hash of bytes, in plain words; what is put behind them; how it goes on. -/
import Derived.Test.YtbabjepblakboaaSt
namespace Go.Proofs.Ytbabjepblakboaa
set_option linter.unusedVariables false
set_option linter.unusedSimpArgs false

/-- n blocks pressed into a state. -/
def pressN : Nat → St → List UInt8 → St
  | 0, s, _ => s
  | n + 1, s, m => pressN n (pressS KS s (m.take 64)) (m.drop 64)

theorem pressN_snoc (n : Nat) (s : St) (m : List UInt8) : pressN (n + 1) s m = pressS KS (pressN n s m) ((m.drop (64 * n)).take 64) := by
  induction n generalizing s m with
  | zero => simp [pressN]
  | succ n ih =>
    have h1 := ih (pressS KS s (m.take 64)) (m.drop 64)
    rw [show pressN (n + 1 + 1) s m = pressN (n + 1) (pressS KS s (m.take 64)) (m.drop 64) from rfl, h1,
      show pressN (n + 1) s m = pressN n (pressS KS s (m.take 64)) (m.drop 64) from rfl, List.drop_drop]
    rw [show 64 + 64 * n = 64 * (n + 1) by omega]

theorem pressN_append (n : Nat) (s : St) (m t : List UInt8) (h : 64 * n ≤ m.length) : pressN n s (m ++ t) = pressN n s m := by
  induction n generalizing s m with
  | zero => rfl
  | succ n ih =>
    show pressN n (pressS KS s ((m ++ t).take 64)) ((m ++ t).drop 64) = pressN n (pressS KS s (m.take 64)) (m.drop 64)
    rw [List.take_append_of_le_length (by omega), List.drop_append_of_le_length (by omega)]
    exact ih _ _ (by simp; omega)

/-- The length in bits, the highest byte first. -/
def be8 (v : Nat) : Nat → List UInt8
  | 0 => []
  | k + 1 => be8 v k ++ [UInt8.ofNat (v / 2 ^ (8 * (7 - k)))]

@[simp] theorem be8_length (v k : Nat) : (be8 v k).length = k := by induction k <;> simp [be8, *]

/-- What is put behind n bytes. -/
def padB (n : Nat) : List UInt8 := 128 :: (List.replicate ((119 - n % 64) % 64) 0 ++ be8 (n * 8) 8)

theorem padB_length (n : Nat) : (padB n).length = (119 - n % 64) % 64 + 9 := by simp [padB]

theorem pad_whole (n : Nat) : (n + (padB n).length) % 64 = 0 := by rw [padB_length]; omega

def wordB (w : W32) : List UInt8 := [UInt8.ofNat (w.toNat / 16777216), UInt8.ofNat (w.toNat / 65536), UInt8.ofNat (w.toNat / 256), UInt8.ofNat w.toNat]

def outB (l : List W32) : List UInt8 := l.flatMap wordB

@[simp] theorem outB_length (l : List W32) : (outB l).length = 4 * l.length := by
  induction l with
  | nil => rfl
  | cons x l ih =>
    show (wordB x ++ outB l).length = _
    rw [List.length_append, ih]
    simp [wordB]
    omega

/-- The hash of bytes. -/
def shaB (m : List UInt8) : List UInt8 := outB (pressN ((m ++ padB m.length).length / 64) S0 (m ++ padB m.length)).l

@[simp] theorem shaB_length (m : List UInt8) : (shaB m).length = 32 := by simp [shaB, St.l]

theorem sha_abc : (shaB [97, 98, 99]).take 4 = [186, 120, 22, 191] := by decide +kernel
theorem sha_nil : (shaB []).take 4 = [227, 176, 196, 66] := by decide +kernel
end Go.Proofs.Ytbabjepblakboaa
