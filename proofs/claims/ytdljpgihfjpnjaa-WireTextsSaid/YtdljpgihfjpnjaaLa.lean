/- The parts of layer 1's laws: what they read as; the functions that go over them. -/
import Derived.Test.YtdljpgihfjpnjaaRa
namespace Go.Proofs.Ytdljpgihfjpnjaa
set_option linter.unusedVariables false
set_option linter.unusedSimpArgs false
open Go.RowKit

structure PartD where
  kind : Int
  size : Int
  n : Nat
  b : List UInt8
  h : List UInt8

def partCells (x : PartD) (v : Value) : List Value := [.int .i64 x.kind, .int .i64 x.size, .int .u64 (x.n : Int), v] ++ bvs x.h

/-- A part lies at block b from o on. -/
def PartAt (w : World) (b o : Nat) (x : PartD) : Prop := x.n < 18446744073709551616 ∧ x.h.length = 32 ∧ ∃ v, Rd w 1 v x.b.length (bvs x.b) ∧ At w b o (partCells x v)

theorem PartAt.stays : Stays PartAt := fun _ _ _ _ _ hb ⟨h1, h2, v, h3, h4⟩ => ⟨h1, h2, v, h3.fresh hb, h4.fresh hb⟩

theorem At.cell0 {w : World} {b o : Nat} {u : Value} {cs : List Value} (h : At w b o (u :: cs)) : w.cell? ⟨b, o, none⟩ = some u := h 0 u rfl
theorem At.cell1 {w : World} {b o : Nat} {u0 u : Value} {cs : List Value} (h : At w b o (u0 :: u :: cs)) : w.cell? ⟨b, o + 1, none⟩ = some u := h 1 u rfl
theorem At.cell2 {w : World} {b o : Nat} {u0 u1 u : Value} {cs : List Value} (h : At w b o (u0 :: u1 :: u :: cs)) : w.cell? ⟨b, o + 2, none⟩ = some u := h 2 u rfl
theorem At.cell3 {w : World} {b o : Nat} {u0 u1 u2 u : Value} {cs : List Value} (h : At w b o (u0 :: u1 :: u2 :: u :: cs)) : w.cell? ⟨b, o + 3, none⟩ = some u := h 3 u rfl

theorem infoPart : (Try.prog.info? 32).map (·.size) = some 36 := by kernel_rfl

def partSum (l : List PartD) : Nat := (l.map fun x => min x.b.length 20001).sum

theorem partSum_snoc (l : List PartD) (k : Nat) (h : k < l.length) : partSum (l.take (k + 1)) = partSum (l.take k) + min (l[k]'h).b.length 20001 := by
  unfold partSum
  rw [List.take_succ_eq_append_getElem h]
  simp only [List.map_append, List.map_cons, List.map_nil, List.sum_append, List.sum_cons, List.sum_nil, Nat.add_zero]

def muchB (l : List PartD) : Bool := decide (40 < l.length) || decide (20000 < partSum (l.take 41))

theorem partSum_le (l : List PartD) (k : Nat) : partSum (l.take k) ≤ 20001 * k := by
  induction k with
  | zero => simp [partSum]
  | succ k ih =>
    by_cases h : k < l.length
    · rw [partSum_snoc l k h]; omega
    · rw [List.take_of_length_le (by omega)] at ih ⊢
      omega

set_option maxRecDepth 100000 in
set_option maxHeartbeats 400000 in
theorem much_any (w : World) (v : Value) (l : List PartD) (hl : Sl PartAt 36 w v l) :
    Calls Try.prog 11 #[v] w fun e w' => e = .returned (.bool (muchB l)) ∧ w = w' := by
  obtain ⟨a, c, rfl⟩ := hl.slice
  go_enter Try.func11, Try.ntmps11
  go_wp2
  go_loopw [3, 4] (fun v3 v4 wr => wr = w ∧ ∃ k : Nat, k ≤ l.length ∧ k ≤ 41 ∧ v4 = .int .i64 (k : Int) ∧ v3 = .int .i64 (partSum (l.take k) : Int))
    (fun _ v _ => 41 - (intOf v).toNat)
  case atStart => exact ⟨rfl, 0, Nat.zero_le _, by omega, rfl, by simp [partSum]⟩
  case round =>
    obtain ⟨rfl, k, hk, hk2, rfl, rfl⟩ := hrel
    have hs := partSum_le l k
    obtain ⟨S, hS⟩ : ∃ S, S = partSum (l.take k) := ⟨_, rfl⟩
    rw [← hS] at hs ⊢
    have HS := Lib.hid hS; clear hS
    by_cases hlt : k < l.length
    · rcases hl with ⟨rfl, _⟩ | ⟨b, off, c', he, hlc, hcm, hx⟩
      · simp at hlt
      simp only [Value.slice.injEq, true_and] at he
      obtain ⟨rfl, rfl⟩ := he
      obtain ⟨h1, h2, vb, h3, h4⟩ := hx k l[k] (by simp [hlt])
      have hc3 := h4.cell3
      obtain ⟨ab, cb, rfl⟩ := h3.slice
      clear hx
      have hcm2 : l.length ≤ 9223372036854775807 := by unfold maxLen at hcm; omega
      clear h4 h3
      by_cases h41 : k ≤ 40
      · go_wp2
        go_roundw
        case rel =>
          refine ⟨trivial, k + 1, by omega, by omega, by go_num, ?_⟩
          rw [partSum_snoc l k hlt, ← HS.out]
          split
          · go_num
          · congr 1; omega
        case measure => simp [intOf]; omega
      · have hk41 : k = 41 := by omega
        subst hk41
        have hlen : decide ((40 : Int) < (l.length : Int)) = true := by simp; omega
        go_wp2
        go_ret
        exact ⟨by simp [muchB]; omega, rfl⟩
    · have hkl : k = l.length := by omega
      have hkk : S = partSum (l.take 41) := by
        rw [HS.out, hkl, List.take_of_length_le (Nat.le_refl _), List.take_of_length_le (by omega)]
      subst hkl
      have HK := Lib.hid hkk; clear hkk
      go_wp2
      · go_ret
        refine ⟨ret_bool (a := decide ((40 : Int) < (l.length : Int)) || decide ((20000 : Int) < (S : Int))) ?_, rfl⟩
        simp only [muchB, ← HK.out]
        congr 1 <;> exact dec_iff (by omega)
      · go_ret
        refine ⟨ret_bool (a := true) ?_, rfl⟩
        have : 40 < l.length := by omega
        simp [muchB, this]
end Go.Proofs.Ytdljpgihfjpnjaa
