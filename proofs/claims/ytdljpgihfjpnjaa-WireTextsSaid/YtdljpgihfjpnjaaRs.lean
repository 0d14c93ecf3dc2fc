/- Contracts of package wire's reader, its parts. -/
import Derived.Test.YtdljpgihfjpnjaaRr
import Derived.Laws.Bits64b
namespace Go.Proofs.Ytdljpgihfjpnjaa
set_option linter.unusedVariables false
set_option linter.unusedSimpArgs false
open Go.RowKit

set_option maxRecDepth 100000 in
set_option maxHeartbeats 400000 in
theorem Read_any (w : World) (v : Value) (xs : List UInt8) (hr : Rd w 1 v xs.length (bvs xs)) (hn : xs.length ≤ 1099511627776) :
    Calls Try.prog 26 #[v] w fun e w' => ∃ r, e = .returned (.pointer (some ⟨r, 0, none⟩)) ∧ w.heap.size ≤ r ∧ IsR w' r w'.heap.size (some xs) ∧ Below w.heap.size w w' := by
  go_enter Try.func26, Try.ntmps26
  go_wp2_with fail
  refine (clone_any w v xs hr hn).mono ?_
  rintro e w' ⟨v', rfl, h1, h2, h3⟩
  have H2 := Lib.hid h2; clear h2
  obtain ⟨a, c, rfl⟩ := own_slice h1
  have hs := h3.size
  have H3 := Lib.hid h3; clear h3
  go_wp2
  go_ret
  have hb : Below w'.heap.size w' (w'.alloc (.cells #[.slice a xs.length c, .bool false, .bool true] 50)) := (Below.refl _ _).alloc (Nat.le_refl _) _
  exact ⟨w'.heap.size, rfl, hs, ⟨by simp, Nat.le_refl _, .slice a xs.length c, xs, heap_alloc_new w' _, (Rd.of_own h1).fresh hb, fun k hk => by have := (h1.lt k hk).2; simp; omega, by simp⟩, H3.out.trans (hb.mono hs)⟩

theorem rbytes_any (w : World) (r N : Nat) (st : Option (List UInt8)) (n : Int) (h : IsR w r N st) :
    Calls Try.prog 31 #[.pointer (some ⟨r, 0, none⟩), .int .i64 n] w (CutPost w r N (rcut st n)) := by
  go_enter Try.func31, Try.ntmps31
  go_wp2_with fail
  refine (cut_any w r N st n h).mono ?_
  rintro e w' ⟨v', rfl, h1, h2, h3⟩
  go_wp2
  go_ret
  exact ⟨v', rfl, h1, h2, h3⟩

/-- The number of bytes, the lowest first. -/
def ofLE : List UInt8 → Nat
  | [] => 0
  | b :: l => b.toNat + 256 * ofLE l

theorem ofLE_snoc (l : List UInt8) (b : UInt8) : ofLE (l ++ [b]) = ofLE l + b.toNat * 2 ^ (8 * l.length) := by
  induction l with
  | nil => simp [ofLE]
  | cons a l ih =>
    simp only [List.cons_append, ofLE, ih, List.length_cons, Nat.mul_add, Nat.pow_add]
    have : 2 ^ (8 * 1) = 256 := rfl
    rw [this, Nat.mul_comm (2 ^ (8 * l.length)) 256, ← Nat.mul_assoc, ← Nat.mul_assoc, Nat.mul_comm 256 b.toNat]
    omega

theorem ofLE_lt (l : List UInt8) : ofLE l < 2 ^ (8 * l.length) := by
  induction l with
  | nil => simp [ofLE]
  | cons a l ih =>
    have := a.toNat_lt
    simp only [ofLE, List.length_cons, Nat.mul_add, Nat.pow_add]
    have h2 : 2 ^ (8 * 1) = 256 := rfl
    rw [h2]
    omega

theorem or_byte (q xn k : Nat) (hq : q < 2 ^ (8 * k)) (hx : xn < 256) (hk : k < 8) :
    bits BinOp.or IntKind.u64 (q : Int) (IntKind.u64.wrap ((xn : Int) * 2 ^ (8 * k))) = ((q + xn * 2 ^ (8 * k) : Nat) : Int) := by
  have hp : 2 ^ (8 * k) ≤ 2 ^ 56 := Nat.pow_le_pow_right (by decide) (by omega)
  have hp2 : (2 : Nat) ^ 56 = 72057594037927936 := rfl
  have hb : xn * 2 ^ (8 * k) < 18446744073709551616 := by
    have h1 : xn * 2 ^ (8 * k) ≤ xn * 2 ^ 56 := Nat.mul_le_mul_left _ hp
    have h2 : xn * 2 ^ 56 ≤ 255 * 2 ^ 56 := Nat.mul_le_mul_right _ (by omega)
    omega
  have hw : IntKind.u64.wrap ((xn : Int) * 2 ^ (8 * k)) = ((xn * 2 ^ (8 * k) : Nat) : Int) := by
    have e : ((xn : Int) * 2 ^ (8 * k)) = ((xn * 2 ^ (8 * k) : Nat) : Int) := by simp
    rw [e]
    generalize xn * 2 ^ (8 * k) = z at *
    simp only [IntKind.wrap, IntKind.signed, IntKind.bits, Bool.false_and, Bool.false_eq_true, if_false]
    omega
  rw [hw, bits_or_u64_nat _ _ (by omega) hb]
  congr 1
  rw [Nat.or_comm, Nat.mul_comm, ← Nat.two_pow_add_eq_or_of_lt hq, Nat.add_comm]

/-- The number that is read, and what is left. -/
def rnum (st : Option (List UInt8)) (s : Int) : Nat × Option (List UInt8) :=
  let y := rcut st (if okSize s = true then s else -1)
  (ofLE y.1, y.2)

set_option maxRecDepth 100000 in
set_option maxHeartbeats 400000 in
theorem rnumber_loop (w : World) (r N : Nat) (st : Option (List UInt8)) (s : Int) (h : IsR w r N st) (hs : okSize s = true) :
    Calls Try.prog 30 #[.pointer (some ⟨r, 0, none⟩), .int .i64 s] w fun e w' => e = .returned (.int .u64 ((rnum st s).1 : Int)) ∧ IsR w' r N (rnum st s).2 ∧ Only r w w' := by
  have fin : rnum st s = (ofLE (rcut st s).1, (rcut st s).2) := by simp [rnum, hs]
  rw [fin]
  have hlen : (rcut st s).1.length ≤ 8 := by
    obtain ⟨k, rfl, hk⟩ := okSize_nat hs
    unfold rcut
    split
    · simp
    · split
      · simp; omega
      · simp
  have Hcut := Lib.hid (cut_any w r N st s h)
  clear fin
  generalize rcut st s = y at *
  obtain ⟨out, st'⟩ := y
  simp only at hlen ⊢
  go_enter Try.func30, Try.ntmps30
  go_wp2_with fail
  refine (whole_any s w).mono ?_
  rintro e w' ⟨rfl, rfl⟩
  rw [hs]
  clear hs
  go_wp2_with fail
  refine Hcut.out.mono ?_
  rintro e w1 ⟨v', rfl, h1, h2, h3⟩
  simp only at h1 h2
  obtain ⟨a, c, rfl⟩ := h1.slice
  go_wp2
  go_loopw [5, 15] (fun v5 v15 wr => wr = w1 ∧ ∃ k : Nat, k ≤ out.length ∧ v15 = .int .i64 (k : Int) ∧ v5 = .int .u64 ((ofLE (out.take k) : Nat) : Int))
    (fun _ v _ => out.length - (intOf v).toNat)
  case atStart => exact ⟨rfl, 0, Nat.zero_le _, rfl, by simp [ofLE]⟩
  case round =>
    obtain ⟨rfl, k, hk, rfl, rfl⟩ := hrel
    by_cases hlt : k < out.length
    · rcases h1.2 with ⟨he, h0⟩ | ⟨ad, c', he, _, _, hcell⟩
      · omega
      simp only [Value.slice.injEq, true_and] at he
      obtain ⟨rfl, rfl⟩ := he
      have hck := hcell k (bv (out[k]'hlt)) (by simp [bvs, hlt])
      have hb := ofLE_lt (out.take k)
      rw [List.length_take_of_le (by omega)] at hb
      obtain ⟨q, hq⟩ : ∃ q, q = ofLE (out.take k) := ⟨_, rfl⟩
      obtain ⟨x, hx⟩ : ∃ x, x = out[k]'hlt := ⟨_, rfl⟩
      rw [← hx] at hck
      rw [← hq] at hb ⊢
      have hx8 := x.toNat_lt
      unfold bv at hck
      have Hx := Lib.hid hx
      have Hq := Lib.hid hq
      have Hb := Lib.hid hb
      clear hx hq hb hcell
      obtain ⟨xn, hxn⟩ : ∃ xn, xn = x.toNat := ⟨_, rfl⟩
      rw [← hxn] at hck hx8
      have Hxn := Lib.hid hxn; clear hxn
      go_wp2
      go_roundw
      case rel =>
        refine ⟨trivial, k + 1, by omega, by go_num, ?_⟩
        have e1 := or_byte q xn k Hb.out (by omega) (by omega)
        rw [e1]
        congr 2
        rw [List.take_succ_eq_append_getElem hlt, ofLE_snoc, ← Hq.out, ← Hx.out, ← Hxn.out, List.length_take_of_le (by omega)]
      case measure => simp [intOf]; omega
    · have hko : k = out.length := by omega
      subst hko
      rw [List.take_of_length_le (Nat.le_refl _)]
      go_wp2
      go_ret
      exact ⟨rfl, h2, h3⟩

set_option maxRecDepth 100000 in
set_option maxHeartbeats 400000 in
theorem rnumber_no (w : World) (r N : Nat) (st : Option (List UInt8)) (s : Int) (h : IsR w r N st) (hs : okSize s = false) :
    Calls Try.prog 30 #[.pointer (some ⟨r, 0, none⟩), .int .i64 s] w fun e w' => e = .returned (.int .u64 ((rnum st s).1 : Int)) ∧ IsR w' r N (rnum st s).2 ∧ Only r w w' := by
  have hc : rcut st (-1) = ([], none) := by
    unfold rcut
    split
    · rfl
    · rw [if_neg (by omega)]
  have fin : rnum st s = (0, none) := by simp [rnum, hs, hc, ofLE]
  rw [fin]
  clear fin
  go_enter Try.func30, Try.ntmps30
  go_wp2_with fail
  refine (whole_any s w).mono ?_
  rintro e w' ⟨rfl, rfl⟩
  rw [hs]
  clear hs
  go_wp2_with fail
  refine (cut_any w r N st (-1) h).mono ?_
  rw [hc]
  rintro e w1 ⟨v', rfl, h1, h2, h3⟩
  obtain ⟨a, c, rfl⟩ := h1.slice
  clear hc
  go_wp2
  go_loopw [5, 15] (fun v5 v15 wr => wr = w1 ∧ v15 = .int .i64 0 ∧ v5 = .int .u64 0) (fun _ v _ => 0)
  case atStart => exact ⟨rfl, rfl, rfl⟩
  case round =>
    obtain ⟨rfl, rfl, rfl⟩ := hrel
    go_wp2
    go_ret
    exact ⟨rfl, h2, h3⟩

theorem rnumber_any (w : World) (r N : Nat) (st : Option (List UInt8)) (s : Int) (h : IsR w r N st) :
    Calls Try.prog 30 #[.pointer (some ⟨r, 0, none⟩), .int .i64 s] w fun e w' => e = .returned (.int .u64 ((rnum st s).1 : Int)) ∧ IsR w' r N (rnum st s).2 ∧ Only r w w' := by
  cases hs : okSize s with
  | true => exact rnumber_loop w r N st s h hs
  | false => exact rnumber_no w r N st s h hs

end Go.Proofs.Ytdljpgihfjpnjaa
