/- Bytes as digits: the walks. -/
import Derived.Test.YtdljpgihfjpnjaaWb
import Derived.Test.YtdljpgihfjpnjaaAgg
import Derived.Test.YtdljpgihfjpnjaaPlan
import Derived.Test.YtdljpgihfjpnjaaTp
namespace Go.Proofs.Ytdljpgihfjpnjaa
set_option linter.unusedVariables false
set_option linter.unusedSimpArgs false
open Go.RowKit

def digits16 : ByteArray := { data := #[48, 49, 50, 51, 52, 53, 54, 55, 56, 57, 97, 98, 99, 100, 101, 102] }

theorem run_digit {P : Program} (t : TypeId) (ht : P.underlying t = some .string) (n : Nat) (h : n < 16) (w : World) :
    (Instr.index t (.string digits16) (.int .u8 (n : Int))).run P w = .ok (bv (hexD n)) w := by
  rw [run_index_string w t digits16 .u8 (n : Int) ht]
  have : n = 0 ∨ n = 1 ∨ n = 2 ∨ n = 3 ∨ n = 4 ∨ n = 5 ∨ n = 6 ∨ n = 7 ∨ n = 8 ∨ n = 9 ∨ n = 10 ∨ n = 11 ∨ n = 12 ∨ n = 13 ∨ n = 14 ∨ n = 15 := by omega
  rcases this with rfl | rfl | rfl | rfl | rfl | rfl | rfl | rfl | rfl | rfl | rfl | rfl | rfl | rfl | rfl | rfl <;> rfl

theorem run_digit' {P : Program} (t : TypeId) (ht : P.underlying t = some .string) (i : Int) (n : Nat) (hi : i = (n : Int)) (h : n < 16) (w : World) :
    (Instr.index t (.string digits16) (.int .u8 i)).run P w = .ok (bv (hexD n)) w := by
  subst hi
  exact run_digit t ht n h w

theorem wpList_index {P : Program} {ops : Array Oper} {rest : List Oper} {o : Oper} {a : Act} {w : World} {Q : Exit → Act → World → Prop} (hgd : o.guard = none) (t : TypeId) (x y : Operand) (ho : o.op = .index t x y) (v : Value)
    (hr : (Instr.index t (a.eval x) (a.eval y)).run P w = .ok v w)
    (h : wpList P ops Q rest (a.put o.dst v) w) : wpList P ops Q (o :: rest) a w := by
  refine wpList_plain hgd fun _ hK => ?_
  unfold Oper.wp execOp
  simp only [ho, hr, Sem.run_bind, Sem.run_pure, Result.andThen_ok]
  exact hK _ _ h

set_option maxRecDepth 100000 in
theorem hex_any (w : World) (v : Value) (l : List UInt8) (hr : Rd w 1 v l.length (bvs l)) (hn : l.length ≤ 1000000) :
    Calls Try.prog 21 #[v] w fun e w' => e = .returned (.string ⟨(hexB l).toArray⟩) ∧ Below w.heap.size w w' := by
  obtain ⟨i0, hi, hz0, hz1, hz2⟩ := info_parts infoU8
  obtain ⟨a, c, rfl⟩ := hr.slice
  have Hr := Lib.hid hr; clear hr
  go_enter Try.func21, Try.ntmps21
  go_wp2_with (with_reducible refine stopAt 9 ?_)
  refine Stop.go ?_
  refine wpList_make_own _ rfl _ _ 25 rfl w.heap.size 5 i0 (.int .u8 0) 1 Try.underlying25 hi hz0 hz1 _ _ _ (2 * l.length) rfl rfl (by go_num) (by rw [hz2]; omega) (by unfold maxLen; omega) (Nat.le_refl _) ?_
  intro w1 hown hgr
  have Hown := Lib.hid hown; clear hown
  have Hbl : Hid (Below w.heap.size w w1) := Below.grown (Below.refl _ w) hgr (Nat.le_refl _) (by simp)
  clear hgr
  go_wp2
  go_loopw [3, 12] (fun v3 v12 wr => ∃ k : Nat, k ≤ l.length ∧ v12 = .int .i64 (k : Int) ∧ wr.ownsRow w.heap.size 5 1 v3 (hexB (l.take k)).length (bvs (hexB (l.take k))) ∧ Below w.heap.size w wr)
    (fun _ v _ => l.length - (intOf v).toNat)
  case atStart => exact ⟨0, Nat.zero_le _, rfl, by simpa [hexB, bvs] using Hown.out, Hbl.out⟩
  case round =>
    obtain ⟨k, hk, rfl, ho, hb⟩ := hrel
    obtain ⟨a3, c3, rfl⟩ := own_slice ho
    have Ho := Lib.hid ho; clear ho
    have Hb := Lib.hid hb; clear hb
    by_cases hlt : k < l.length
    · rcases Hr.out.fresh Hb.out with ⟨_, ⟨he, h0⟩ | ⟨ad, c', he, _, _, hcell⟩⟩
      · omega
      simp only [Value.slice.injEq, true_and] at he
      obtain ⟨rfl, rfl⟩ := he
      have hck := hcell k (bv (l[k]'hlt)) (by simp [bvs, hlt])
      obtain ⟨x, hx⟩ : ∃ x, x = l[k]'hlt := ⟨_, rfl⟩
      rw [← hx] at hck
      have hx8 := x.toNat_lt
      unfold bv at hck
      obtain ⟨xn, hxn⟩ : ∃ xn, xn = x.toNat := ⟨_, rfl⟩
      rw [← hxn] at hck hx8
      have Hx := Lib.hid hx
      have Hxn := Lib.hid hxn
      clear hx hxn hcell
      go_wp2_with fail
      refine pl_start 10 rfl (fun _ => True) (by kernel_rfl) ?_
      refine pl_take (i := 0) 16 rfl rfl rfl (by kernel_rfl) (by kernel_rfl) (by kernel_rfl) (by simp [Act.put]) trivial ?_
      apply Exists.intro
      refine And.intro (fun w' hS => ?_) ?_
      · go_wp2
        exact ⟨trivial, rfl⟩
      refine pl_take (i := 1) 17 rfl rfl rfl (by kernel_rfl) (by kernel_rfl) (by kernel_rfl) (by simp [Act.put]) trivial ?_
      apply Exists.intro
      refine And.intro (fun w' hS => ?_) ?_
      · go_wp2
        exact ⟨trivial, rfl⟩
      refine pl_take (i := 2) 18 rfl rfl rfl (by kernel_rfl) (by kernel_rfl) (by kernel_rfl) (by simp [Act.put]) trivial ?_
      apply Exists.intro
      refine And.intro (fun w' hS => ?_) ?_
      · go_wp2
        exact ⟨trivial, rfl⟩
      refine pl_take (i := 3) 19 rfl rfl rfl (by kernel_rfl) (by kernel_rfl) (by kernel_rfl) (by simp [Act.put]) trivial ?_
      apply Exists.intro
      refine And.intro (fun w' hS => ?_) ?_
      · refine wpList_index rfl 9 _ (.tmp 18) rfl (.int .u8 ((hexD (xn / 16)).toNat : Int)) (run_digit' 9 Try.underlying9 _ (xn / 16) (by simp) (by omega) w') ?_
        go_wp2
        exact ⟨trivial, rfl⟩
      refine pl_take (i := 4) 20 rfl rfl rfl (by kernel_rfl) (by kernel_rfl) (by kernel_rfl) (by simp [Act.put]) trivial ?_
      apply Exists.intro
      refine And.intro (fun w' hS => ?_) ?_
      · go_wp2
        exact ⟨trivial, rfl⟩
      refine pl_take (i := 5) 21 rfl rfl rfl (by kernel_rfl) (by kernel_rfl) (by kernel_rfl) (by simp [Act.put]) trivial ?_
      apply Exists.intro
      refine And.intro (fun w' hS => ?_) ?_
      · go_wp2
        exact ⟨trivial, rfl⟩
      refine pl_take (i := 6) 22 rfl rfl rfl (by kernel_rfl) (by kernel_rfl) (by kernel_rfl) (by simp [Act.put]) trivial ?_
      apply Exists.intro
      refine And.intro (fun w' hS => ?_) ?_
      · refine wpList_index rfl 9 _ (.tmp 21) rfl (.int .u8 ((hexD (xn % 16)).toNat : Int)) (run_digit' 9 Try.underlying9 _ (xn % 16) (by simp) (by omega) w') ?_
        go_wp2
        exact ⟨trivial, rfl⟩
      refine pl_heavy (i := 7) rfl (by kernel_rfl) ?_
      go_wp2
      refine And.intro trivial ?_
      obtain ⟨w2, hw2, hbb, hbl2⟩ : ∃ w2, w2 = wr.drew.alloc (.cells (bvs [hexD (xn / 16), hexD (xn % 16)]).toArray 5) ∧ BB w2 5 wr.heap.size [hexD (xn / 16), hexD (xn % 16)] ∧ Below wr.heap.size wr w2 :=
        ⟨_, rfl, BB.new wr.drew _ _, ((Below.refl _ wr).drew.alloc (Nat.le_refl _) _)⟩
      change wpAnyH _ _ _ _ _ _ _ _ (wr.drew.alloc (.cells (bvs [hexD (xn / 16), hexD (xn % 16)]).toArray 5))
      rw [← hw2]
      clear hw2
      refine pl_heavy (i := 8) rfl (by kernel_rfl) ?_
      refine wpList_append_rd _ rfl (.tmp 16) (.tmp 23) 25 rfl w.heap.size 5 i0 (.int .u8 0) 1 1 Try.underlying25 hi hz0 hz1 hz2 rfl (by decide) (.slice a3 (hexB (l.take k)).length c3) (hexB (l.take k)).length (bvs (hexB (l.take k))) rfl (own_fresh Ho.out hbl2) (.slice (some ⟨wr.heap.size, 0, none⟩) 2 2) 2 (bvs [hexD (xn / 16), hexD (xn % 16)]) rfl (hbb.rdAll (by simp [maxLen])) (bvs_one _) (by rw [hexB_length]; simp [maxLen]; omega) (by rw [hexB_length]; simp; omega) (by have := Hb.out.size; have := hbl2.size; omega) ?_
      intro v' w3 hown3 hgr3 _ _
      have B3 : Hid (Below w.heap.size w w3) := (Hb.out.trans (hbl2.mono Hb.out.size)).grown hgr3 (by have := Hb.out.size; have := hbl2.size; omega) (fun j hj => (Ho.out.lt j hj).1)
      have hlen : (hexB (l.take k)).length + 2 = (hexB (l.take (k + 1))).length ∧ bvs (hexB (l.take k)) ++ bvs [hexD (xn / 16), hexD (xn % 16)] = bvs (hexB (l.take (k + 1))) := by
        rw [hexB_take l k hlt, ← Hx.out, ← Hxn.out]
        simp
      rw [hlen.1, hlen.2] at hown3
      have Ho3 := Lib.hid hown3
      clear hown3 hgr3 hbb hbl2 hlen
      go_wp2
      refine And.intro trivial ?_
      refine pl_heavy (i := 9) rfl (by kernel_rfl) ?_
      go_wp2
      refine And.intro trivial ?_
      refine pl_done (by kernel_rfl) ?_
      go_wp2
      go_roundw
      case rel => exact ⟨k + 1, by omega, by go_num, Ho3.out, B3.out⟩
      case measure => simp [intOf]; omega
    · have hkl : k = l.length := by omega
      subst hkl
      rw [List.take_of_length_le (Nat.le_refl _)] at Ho
      rw [List.take_of_length_le (Nat.le_refl _)]
      have hcv := Rd.conv (P := Try.prog) (Rd.of_own Ho.out) 25 9 5 Try.underlying25 Try.underlying5 Try.underlying9
      go_wp2
      go_ret
      exact ⟨rfl, Hb.out⟩
end Go.Proofs.Ytdljpgihfjpnjaa
