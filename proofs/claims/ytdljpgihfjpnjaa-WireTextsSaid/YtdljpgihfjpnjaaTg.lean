/- WireTexts: the walk, where the text says no bytes. -/
import Derived.Test.YtdljpgihfjpnjaaTf
namespace Go.Proofs.Ytdljpgihfjpnjaa
set_option linter.unusedVariables false
set_option linter.unusedSimpArgs false
open Go.RowKit Go.Lib

set_option maxRecDepth 100000 in
set_option maxHeartbeats 4000000 in
theorem texts_false_true (w : World) (a : Option Addr) (c : Nat) (l x Y H : List UInt8) (T : ByteArray) (Hr : Hid (Rd w 1 (Value.slice a l.length c) l.length (bvs l))) (HX : Hid (x.length = 32)) (HH : Hid (H.length = 32))
    (hb : l.length ≤ 3000) (hTi : (T.size : Int) ≤ 9000)
    (K1 : Hid (∀ w0, Calls Try.prog 17 #[.string T] w0 fun e w' => ∃ v', e = .returned (.tuple #[v', .int .i64 4]) ∧ Rd w' 1 v' Y.length (bvs Y) ∧ Below w0.heap.size w0 w'))
    (K2 : Hid (∀ w0, Calls Try.prog 18 #[.string T] w0 fun e w' => ∃ v', e = .returned (.tuple #[v', .bool false]) ∧ Rd w' 1 v' Y.length (bvs Y) ∧ Below w0.heap.size w0 w'))
    (K3 : Hid (∀ w0, Calls Try.prog 19 #[.string T] w0 fun e w' => e = .returned (.tuple #[.agg (bvs H).toArray, .int .i64 0]) ∧ Below w0.heap.size w0 w'))
    (K4 : Hid (∀ w0, Calls Try.prog 20 #[.string T] w0 fun e w' => e = .returned (.tuple #[.agg (bvs H).toArray, .bool true]) ∧ Below w0.heap.size w0 w')) :
    Calls Try.prog 4 #[.slice a l.length c, .string T, .agg (bvs x).toArray] w fun e w' => e = .returned (.bool true) ∧ Below w.heap.size w w' := by
  go_enter Try.func4, Try.ntmps4
  go_wp2_with fail
  obtain ⟨wa, hwa, hxa, ba⟩ : ∃ w0, w0 = w.alloc (.cells (bvs x).toArray 30) ∧ BB w0 30 w.heap.size x ∧ Below w.heap.size w w0 :=
    ⟨_, rfl, BB.new w _ _, (Below.refl _ w).alloc (Nat.le_refl _) _⟩
  change Calls _ _ _ (w.alloc (.cells (bvs x).toArray 30)) _
  rw [← hwa]
  clear hwa
  refine (K1.out wa).mono ?_
  rintro e w1 ⟨v1, rfl, r1, b1⟩
  have X1 := Lib.hid (hxa.fresh b1)
  have B1 : Hid (Below w.heap.size w w1) := ba.trans (b1.mono ba.size)
  obtain ⟨a1, c1, rfl⟩ := r1.slice
  have R1 := Lib.hid r1
  clear hxa ba r1 b1
  go_wp2_with fail
  refine (K2.out w1).mono ?_
  rintro e w2 ⟨v2, rfl, r2, b2⟩
  have X2 := Lib.hid (X1.out.fresh b2)
  have B2 : Hid (Below w.heap.size w w2) := B1.out.trans (b2.mono B1.out.size)
  obtain ⟨a2, c2, rfl⟩ := r2.slice
  have R12 := Lib.hid (R1.out.fresh b2)
  have R22 := Lib.hid r2
  clear r2 b2 X1 B1 R1
  go_wp2_with fail
  refine (K3.out w2).mono ?_
  rintro e w3 ⟨rfl, b3⟩
  have X3 := Lib.hid (X2.out.fresh b3)
  have B3 : Hid (Below w.heap.size w w3) := B2.out.trans (b3.mono B2.out.size)
  have R13 := Lib.hid (R12.out.fresh b3)
  have R23 := Lib.hid (R22.out.fresh b3)
  clear b3 X2 B2 R12 R22
  go_wp2_with (with_reducible refine stopStore 30 ?_)
  refine Stop.go ?_
  have bo : Below w3.heap.size w3 (w3.alloc (Obj.cells (bvs zero32).toArray 30)) := (Below.refl _ w3).alloc (Nat.le_refl _) _
  refine wpList_store_var rfl 30 (.tmp 11) (.tmp 37) rfl w3.heap.size _ rfl _ (bvs H) rfl (heap_alloc_new w3 _) (by simp [HH.out]) (bvs_one _) (by rw [bvs_length, HH.out]; exact infoHash) ?_
  intro w4 hb4 ho4
  have b4 : Below w3.heap.size w3 w4 := Below.only bo ho4 (Nat.le_refl _)
  have X4 := Lib.hid (X3.out.fresh b4)
  have B4 : Hid (Below w.heap.size w w4) := B3.out.trans (b4.mono B3.out.size)
  have R14 := Lib.hid (R13.out.fresh b4)
  have R24 := Lib.hid (R23.out.fresh b4)
  have G4 : Hid (BB w4 30 w3.heap.size H) := hb4
  clear hb4 ho4 bo b4 X3 B3 R13 R23
  go_wp2_with fail
  refine (K4.out w4).mono ?_
  rintro e w5 ⟨rfl, b5⟩
  have X5 := Lib.hid (X4.out.fresh b5)
  have B5 : Hid (Below w.heap.size w w5) := B4.out.trans (b5.mono B4.out.size)
  have R15 := Lib.hid (R14.out.fresh b5)
  have R25 := Lib.hid (R24.out.fresh b5)
  have G5 := Lib.hid (G4.out.fresh b5)
  clear b5 X4 B4 R14 R24 G4
  go_wp2_with (with_reducible refine stopStore 30 ?_)
  refine Stop.go ?_
  have bo : Below w5.heap.size w5 (w5.alloc (Obj.cells (bvs zero32).toArray 30)) := (Below.refl _ w5).alloc (Nat.le_refl _) _
  refine wpList_store_var rfl 30 (.tmp 13) (.tmp 42) rfl w5.heap.size _ rfl _ (bvs H) rfl (heap_alloc_new w5 _) (by simp [HH.out]) (bvs_one _) (by rw [bvs_length, HH.out]; exact infoHash) ?_
  intro w6 hb6 ho6
  have b6 : Below w5.heap.size w5 w6 := Below.only bo ho6 (Nat.le_refl _)
  have X6 := Lib.hid (X5.out.fresh b6)
  have B6 : Hid (Below w.heap.size w w6) := B5.out.trans (b6.mono B5.out.size)
  have hcv1 := Rd.conv (P := Try.prog) (R15.out.fresh b6) 25 9 5 Try.underlying25 Try.underlying5 Try.underlying9
  have hcv2 := Rd.conv (P := Try.prog) (R25.out.fresh b6) 25 9 5 Try.underlying25 Try.underlying5 Try.underlying9
  have G6 := Lib.hid (G5.out.fresh b6)
  have F6 : Hid (BB w6 30 w5.heap.size H) := hb6
  clear hb6 ho6 bo b6 X5 B5 R15 R25 G5
  go_wp2_with fail
  refine (num_any _ _).mono ?_
  rintro e w7 ⟨rfl, rfl⟩
  go_wp2_with fail
  refine (num_any _ _).mono ?_
  rintro e w7 ⟨rfl, rfl⟩
  clear hcv1 hcv2
  go_wp2_with (with_reducible refine stopAt 66 ?_)
  refine Stop.go ?_
  refine wpList_unguard rfl ?_
  refine wpList_load_agg rfl 30 (.tmp 11) rfl ⟨w3.heap.size, 0, none⟩ rfl (bvs H) _ (At.block G6.out).load Try.underlying30 rfl (by rw [bvs_length, HH.out]; exact infoHash) ?_
  go_wp2_with (with_reducible refine stopAt 67 ?_)
  refine Stop.go ?_
  refine wpList_unguard rfl ?_
  refine wpList_load_agg rfl 30 (.tmp 13) rfl ⟨w5.heap.size, 0, none⟩ rfl (bvs H) _ (At.block F6.out).load Try.underlying30 rfl (by rw [bvs_length, HH.out]; exact infoHash) ?_
  go_wp2_with (with_reducible refine stopAt 68 ?_)
  refine Stop.go ?_
  refine wpList_unguard rfl ?_
  refine wpList_bin rfl .neq 30 30 (.tmp 66) (.tmp 67) rfl (.bool false) (eqGuard_agg _ _ _ _ _ _ _ (by kernel_rfl)) (hash_ne_self w6 H HH.out) ?_
  go_wp2_with fail
  refine (num_any _ _).mono ?_
  rintro e w7 ⟨rfl, rfl⟩
  clear G6 F6
  go_wp2_with fail
  have X7 : Hid (BB w6.drew 30 w.heap.size x) := X6.out
  have B7 : Hid (Below w.heap.size w w6.drew) := B6.out.drew
  clear X6 B6
  refine pl_start 16 rfl (fun w' => BB w' 30 w.heap.size x) (by kernel_rfl) ?_
  obtain ⟨w7, hw7⟩ : ∃ w7, w7 = w6.drew := ⟨_, rfl⟩
  rw [← hw7] at X7 B7
  rw [← hw7]
  clear hw7
  refine pl_take (i := 0) 86 rfl rfl rfl (by kernel_rfl) (by kernel_rfl) (by kernel_rfl) (by simp [Act.put]) X7.out ?_
  apply Exists.intro
  refine And.intro (fun w' hS => ?_) ?_
  · go_wp2
    exact ⟨trivial, rfl⟩
  refine pl_take (i := 2) 88 rfl rfl rfl (by kernel_rfl) (by kernel_rfl) (by kernel_rfl) (by simp [Act.put]) X7.out ?_
  apply Exists.intro
  refine And.intro (fun w' hS => ?_) ?_
  · go_wp2
    exact ⟨trivial, rfl⟩
  refine pl_heavy (i := 1) rfl (by kernel_rfl) ?_
  go_wp2_with fail
  refine (hex_any w7 _ l (Hr.out.fresh B7.out) (by omega)).mono ?_
  rintro e w8 ⟨rfl, b8⟩
  have X8 := Lib.hid (X7.out.fresh b8)
  have B8 : Hid (Below w.heap.size w w8) := B7.out.trans (b8.mono B7.out.size)
  clear b8 X7 B7
  go_wp2
  refine And.intro X8.out ?_
  refine pl_heavy (i := 3) rfl (by kernel_rfl) ?_
  go_wp2_with fail
  refine (rhex_any w8 _ l (Hr.out.fresh B8.out) (by omega)).mono ?_
  rintro e w9 ⟨rfl, b9⟩
  have X9 := Lib.hid (X8.out.fresh b9)
  have B9 : Hid (Below w.heap.size w w9) := B8.out.trans (b9.mono B8.out.size)
  clear b9 X8 B8
  go_wp2
  refine And.intro X9.out ?_
  refine pl_heavy (i := 4) rfl (by kernel_rfl) ?_
  go_wp2
  refine And.intro X9.out ?_
  refine pl_heavy (i := 5) rfl (by kernel_rfl) ?_
  go_wp2
  refine And.intro X9.out ?_
  refine pl_take (i := 6) 92 rfl rfl rfl (by kernel_rfl) (by kernel_rfl) (by kernel_rfl) (by simp [Act.put]) X9.out ?_
  apply Exists.intro
  refine And.intro (fun w' hS => ?_) ?_
  · refine wpList_unguard rfl ?_
    refine wpList_load_agg rfl 30 (.tmp 5) rfl ⟨w.heap.size, 0, none⟩ rfl (bvs x) _ (At.block hS).load Try.underlying30 rfl (by rw [bvs_length, HX.out]; exact infoHash) ?_
    go_wp2
    exact ⟨trivial, rfl⟩
  refine pl_take (i := 8) 94 rfl rfl rfl (by kernel_rfl) (by kernel_rfl) (by kernel_rfl) (by simp [Act.put]) X9.out ?_
  apply Exists.intro
  refine And.intro (fun w' hS => ?_) ?_
  · go_wp2
    exact ⟨trivial, rfl⟩
  refine pl_heavy (i := 7) rfl (by kernel_rfl) ?_
  go_wp2_with fail
  refine (hashText_any w9 x HX.out).mono ?_
  rintro e w10 ⟨rfl, b10⟩
  have X10 := Lib.hid (X9.out.fresh b10)
  have B10 : Hid (Below w.heap.size w w10) := B9.out.trans (b10.mono B9.out.size)
  clear b10 X9 B9
  go_wp2
  refine And.intro X10.out ?_
  refine pl_heavy (i := 9) rfl (by kernel_rfl) ?_
  go_wp2_with fail
  refine (rhex_any w10 _ x (by have := X10.out.rdAll (by rw [HX.out]; simp [maxLen]); rw [HX.out] at this; rw [HX.out]; exact this) (by rw [HX.out]; omega)).mono ?_
  rintro e w11 ⟨rfl, b11⟩
  have X11 := Lib.hid (X10.out.fresh b11)
  have B11 : Hid (Below w.heap.size w w11) := B10.out.trans (b11.mono B10.out.size)
  clear b11 X10 B10
  go_wp2
  refine And.intro X11.out ?_
  refine pl_heavy (i := 10) rfl (by kernel_rfl) ?_
  go_wp2
  refine And.intro X11.out ?_
  refine pl_heavy (i := 11) rfl (by kernel_rfl) ?_
  go_wp2
  refine And.intro X11.out ?_
  refine pl_heavy (i := 12) rfl (by kernel_rfl) ?_
  go_wp2
  refine And.intro X11.out ?_
  refine pl_heavy (i := 13) rfl (by kernel_rfl) ?_
  go_wp2_with fail
  refine (known_any w11).mono ?_
  rintro e w12 ⟨rfl, b12⟩
  have X12 := Lib.hid (X11.out.fresh b12)
  have B12 : Hid (Below w.heap.size w w12) := B11.out.trans (b12.mono B11.out.size)
  clear b12 X11 B11
  go_wp2
  refine And.intro X12.out ?_
  refine pl_heavy (i := 14) rfl (by kernel_rfl) ?_
  go_wp2
  refine And.intro X12.out ?_
  refine pl_heavy (i := 15) rfl (by kernel_rfl) ?_
  go_wp2
  refine And.intro X12.out ?_
  refine pl_done (by kernel_rfl) ?_
  go_wp2
  go_ret
  exact ⟨rfl, B12.out⟩

set_option maxRecDepth 100000 in
set_option maxHeartbeats 4000000 in
theorem texts_false_false (w : World) (a : Option Addr) (c : Nat) (l x Y H : List UInt8) (T : ByteArray) (Hr : Hid (Rd w 1 (Value.slice a l.length c) l.length (bvs l))) (HX : Hid (x.length = 32)) (HH : Hid (H.length = 32))
    (hb : l.length ≤ 3000) (hTi : (T.size : Int) ≤ 9000)
    (K1 : Hid (∀ w0, Calls Try.prog 17 #[.string T] w0 fun e w' => ∃ v', e = .returned (.tuple #[v', .int .i64 4]) ∧ Rd w' 1 v' Y.length (bvs Y) ∧ Below w0.heap.size w0 w'))
    (K2 : Hid (∀ w0, Calls Try.prog 18 #[.string T] w0 fun e w' => ∃ v', e = .returned (.tuple #[v', .bool false]) ∧ Rd w' 1 v' Y.length (bvs Y) ∧ Below w0.heap.size w0 w'))
    (K3 : Hid (∀ w0, Calls Try.prog 19 #[.string T] w0 fun e w' => e = .returned (.tuple #[.agg (bvs H).toArray, .int .i64 4]) ∧ Below w0.heap.size w0 w'))
    (K4 : Hid (∀ w0, Calls Try.prog 20 #[.string T] w0 fun e w' => e = .returned (.tuple #[.agg (bvs H).toArray, .bool false]) ∧ Below w0.heap.size w0 w')) :
    Calls Try.prog 4 #[.slice a l.length c, .string T, .agg (bvs x).toArray] w fun e w' => e = .returned (.bool true) ∧ Below w.heap.size w w' := by
  go_enter Try.func4, Try.ntmps4
  go_wp2_with fail
  obtain ⟨wa, hwa, hxa, ba⟩ : ∃ w0, w0 = w.alloc (.cells (bvs x).toArray 30) ∧ BB w0 30 w.heap.size x ∧ Below w.heap.size w w0 :=
    ⟨_, rfl, BB.new w _ _, (Below.refl _ w).alloc (Nat.le_refl _) _⟩
  change Calls _ _ _ (w.alloc (.cells (bvs x).toArray 30)) _
  rw [← hwa]
  clear hwa
  refine (K1.out wa).mono ?_
  rintro e w1 ⟨v1, rfl, r1, b1⟩
  have X1 := Lib.hid (hxa.fresh b1)
  have B1 : Hid (Below w.heap.size w w1) := ba.trans (b1.mono ba.size)
  obtain ⟨a1, c1, rfl⟩ := r1.slice
  have R1 := Lib.hid r1
  clear hxa ba r1 b1
  go_wp2_with fail
  refine (K2.out w1).mono ?_
  rintro e w2 ⟨v2, rfl, r2, b2⟩
  have X2 := Lib.hid (X1.out.fresh b2)
  have B2 : Hid (Below w.heap.size w w2) := B1.out.trans (b2.mono B1.out.size)
  obtain ⟨a2, c2, rfl⟩ := r2.slice
  have R12 := Lib.hid (R1.out.fresh b2)
  have R22 := Lib.hid r2
  clear r2 b2 X1 B1 R1
  go_wp2_with fail
  refine (K3.out w2).mono ?_
  rintro e w3 ⟨rfl, b3⟩
  have X3 := Lib.hid (X2.out.fresh b3)
  have B3 : Hid (Below w.heap.size w w3) := B2.out.trans (b3.mono B2.out.size)
  have R13 := Lib.hid (R12.out.fresh b3)
  have R23 := Lib.hid (R22.out.fresh b3)
  clear b3 X2 B2 R12 R22
  go_wp2_with (with_reducible refine stopStore 30 ?_)
  refine Stop.go ?_
  have bo : Below w3.heap.size w3 (w3.alloc (Obj.cells (bvs zero32).toArray 30)) := (Below.refl _ w3).alloc (Nat.le_refl _) _
  refine wpList_store_var rfl 30 (.tmp 11) (.tmp 37) rfl w3.heap.size _ rfl _ (bvs H) rfl (heap_alloc_new w3 _) (by simp [HH.out]) (bvs_one _) (by rw [bvs_length, HH.out]; exact infoHash) ?_
  intro w4 hb4 ho4
  have b4 : Below w3.heap.size w3 w4 := Below.only bo ho4 (Nat.le_refl _)
  have X4 := Lib.hid (X3.out.fresh b4)
  have B4 : Hid (Below w.heap.size w w4) := B3.out.trans (b4.mono B3.out.size)
  have R14 := Lib.hid (R13.out.fresh b4)
  have R24 := Lib.hid (R23.out.fresh b4)
  have G4 : Hid (BB w4 30 w3.heap.size H) := hb4
  clear hb4 ho4 bo b4 X3 B3 R13 R23
  go_wp2_with fail
  refine (K4.out w4).mono ?_
  rintro e w5 ⟨rfl, b5⟩
  have X5 := Lib.hid (X4.out.fresh b5)
  have B5 : Hid (Below w.heap.size w w5) := B4.out.trans (b5.mono B4.out.size)
  have R15 := Lib.hid (R14.out.fresh b5)
  have R25 := Lib.hid (R24.out.fresh b5)
  have G5 := Lib.hid (G4.out.fresh b5)
  clear b5 X4 B4 R14 R24 G4
  go_wp2_with (with_reducible refine stopStore 30 ?_)
  refine Stop.go ?_
  have bo : Below w5.heap.size w5 (w5.alloc (Obj.cells (bvs zero32).toArray 30)) := (Below.refl _ w5).alloc (Nat.le_refl _) _
  refine wpList_store_var rfl 30 (.tmp 13) (.tmp 42) rfl w5.heap.size _ rfl _ (bvs H) rfl (heap_alloc_new w5 _) (by simp [HH.out]) (bvs_one _) (by rw [bvs_length, HH.out]; exact infoHash) ?_
  intro w6 hb6 ho6
  have b6 : Below w5.heap.size w5 w6 := Below.only bo ho6 (Nat.le_refl _)
  have X6 := Lib.hid (X5.out.fresh b6)
  have B6 : Hid (Below w.heap.size w w6) := B5.out.trans (b6.mono B5.out.size)
  have hcv1 := Rd.conv (P := Try.prog) (R15.out.fresh b6) 25 9 5 Try.underlying25 Try.underlying5 Try.underlying9
  have hcv2 := Rd.conv (P := Try.prog) (R25.out.fresh b6) 25 9 5 Try.underlying25 Try.underlying5 Try.underlying9
  have G6 := Lib.hid (G5.out.fresh b6)
  have F6 : Hid (BB w6 30 w5.heap.size H) := hb6
  clear hb6 ho6 bo b6 X5 B5 R15 R25 G5
  go_wp2_with fail
  refine (num_any _ _).mono ?_
  rintro e w7 ⟨rfl, rfl⟩
  go_wp2_with fail
  refine (num_any _ _).mono ?_
  rintro e w7 ⟨rfl, rfl⟩
  clear hcv1 hcv2
  go_wp2_with (with_reducible refine stopAt 66 ?_)
  refine Stop.go ?_
  refine wpList_unguard rfl ?_
  refine wpList_load_agg rfl 30 (.tmp 11) rfl ⟨w3.heap.size, 0, none⟩ rfl (bvs H) _ (At.block G6.out).load Try.underlying30 rfl (by rw [bvs_length, HH.out]; exact infoHash) ?_
  go_wp2_with (with_reducible refine stopAt 67 ?_)
  refine Stop.go ?_
  refine wpList_unguard rfl ?_
  refine wpList_load_agg rfl 30 (.tmp 13) rfl ⟨w5.heap.size, 0, none⟩ rfl (bvs H) _ (At.block F6.out).load Try.underlying30 rfl (by rw [bvs_length, HH.out]; exact infoHash) ?_
  go_wp2_with (with_reducible refine stopAt 68 ?_)
  refine Stop.go ?_
  refine wpList_unguard rfl ?_
  refine wpList_bin rfl .neq 30 30 (.tmp 66) (.tmp 67) rfl (.bool false) (eqGuard_agg _ _ _ _ _ _ _ (by kernel_rfl)) (hash_ne_self w6 H HH.out) ?_
  go_wp2_with fail
  refine (num_any _ _).mono ?_
  rintro e w7 ⟨rfl, rfl⟩
  go_wp2_with fail
  refine (num_any _ _).mono ?_
  rintro e w7 ⟨rfl, rfl⟩
  clear G6 F6
  go_wp2_with fail
  have X7 : Hid (BB w6.drew 30 w.heap.size x) := X6.out
  have B7 : Hid (Below w.heap.size w w6.drew) := B6.out.drew
  clear X6 B6
  refine pl_start 16 rfl (fun w' => BB w' 30 w.heap.size x) (by kernel_rfl) ?_
  obtain ⟨w7, hw7⟩ : ∃ w7, w7 = w6.drew := ⟨_, rfl⟩
  rw [← hw7] at X7 B7
  rw [← hw7]
  clear hw7
  refine pl_take (i := 0) 86 rfl rfl rfl (by kernel_rfl) (by kernel_rfl) (by kernel_rfl) (by simp [Act.put]) X7.out ?_
  apply Exists.intro
  refine And.intro (fun w' hS => ?_) ?_
  · go_wp2
    exact ⟨trivial, rfl⟩
  refine pl_take (i := 2) 88 rfl rfl rfl (by kernel_rfl) (by kernel_rfl) (by kernel_rfl) (by simp [Act.put]) X7.out ?_
  apply Exists.intro
  refine And.intro (fun w' hS => ?_) ?_
  · go_wp2
    exact ⟨trivial, rfl⟩
  refine pl_heavy (i := 1) rfl (by kernel_rfl) ?_
  go_wp2_with fail
  refine (hex_any w7 _ l (Hr.out.fresh B7.out) (by omega)).mono ?_
  rintro e w8 ⟨rfl, b8⟩
  have X8 := Lib.hid (X7.out.fresh b8)
  have B8 : Hid (Below w.heap.size w w8) := B7.out.trans (b8.mono B7.out.size)
  clear b8 X7 B7
  go_wp2
  refine And.intro X8.out ?_
  refine pl_heavy (i := 3) rfl (by kernel_rfl) ?_
  go_wp2_with fail
  refine (rhex_any w8 _ l (Hr.out.fresh B8.out) (by omega)).mono ?_
  rintro e w9 ⟨rfl, b9⟩
  have X9 := Lib.hid (X8.out.fresh b9)
  have B9 : Hid (Below w.heap.size w w9) := B8.out.trans (b9.mono B8.out.size)
  clear b9 X8 B8
  go_wp2
  refine And.intro X9.out ?_
  refine pl_heavy (i := 4) rfl (by kernel_rfl) ?_
  go_wp2
  refine And.intro X9.out ?_
  refine pl_heavy (i := 5) rfl (by kernel_rfl) ?_
  go_wp2
  refine And.intro X9.out ?_
  refine pl_take (i := 6) 92 rfl rfl rfl (by kernel_rfl) (by kernel_rfl) (by kernel_rfl) (by simp [Act.put]) X9.out ?_
  apply Exists.intro
  refine And.intro (fun w' hS => ?_) ?_
  · refine wpList_unguard rfl ?_
    refine wpList_load_agg rfl 30 (.tmp 5) rfl ⟨w.heap.size, 0, none⟩ rfl (bvs x) _ (At.block hS).load Try.underlying30 rfl (by rw [bvs_length, HX.out]; exact infoHash) ?_
    go_wp2
    exact ⟨trivial, rfl⟩
  refine pl_take (i := 8) 94 rfl rfl rfl (by kernel_rfl) (by kernel_rfl) (by kernel_rfl) (by simp [Act.put]) X9.out ?_
  apply Exists.intro
  refine And.intro (fun w' hS => ?_) ?_
  · go_wp2
    exact ⟨trivial, rfl⟩
  refine pl_heavy (i := 7) rfl (by kernel_rfl) ?_
  go_wp2_with fail
  refine (hashText_any w9 x HX.out).mono ?_
  rintro e w10 ⟨rfl, b10⟩
  have X10 := Lib.hid (X9.out.fresh b10)
  have B10 : Hid (Below w.heap.size w w10) := B9.out.trans (b10.mono B9.out.size)
  clear b10 X9 B9
  go_wp2
  refine And.intro X10.out ?_
  refine pl_heavy (i := 9) rfl (by kernel_rfl) ?_
  go_wp2_with fail
  refine (rhex_any w10 _ x (by have := X10.out.rdAll (by rw [HX.out]; simp [maxLen]); rw [HX.out] at this; rw [HX.out]; exact this) (by rw [HX.out]; omega)).mono ?_
  rintro e w11 ⟨rfl, b11⟩
  have X11 := Lib.hid (X10.out.fresh b11)
  have B11 : Hid (Below w.heap.size w w11) := B10.out.trans (b11.mono B10.out.size)
  clear b11 X10 B10
  go_wp2
  refine And.intro X11.out ?_
  refine pl_heavy (i := 10) rfl (by kernel_rfl) ?_
  go_wp2
  refine And.intro X11.out ?_
  refine pl_heavy (i := 11) rfl (by kernel_rfl) ?_
  go_wp2
  refine And.intro X11.out ?_
  refine pl_heavy (i := 12) rfl (by kernel_rfl) ?_
  go_wp2
  refine And.intro X11.out ?_
  refine pl_heavy (i := 13) rfl (by kernel_rfl) ?_
  go_wp2_with fail
  refine (known_any w11).mono ?_
  rintro e w12 ⟨rfl, b12⟩
  have X12 := Lib.hid (X11.out.fresh b12)
  have B12 : Hid (Below w.heap.size w w12) := B11.out.trans (b12.mono B11.out.size)
  clear b12 X11 B11
  go_wp2
  refine And.intro X12.out ?_
  refine pl_heavy (i := 14) rfl (by kernel_rfl) ?_
  go_wp2
  refine And.intro X12.out ?_
  refine pl_heavy (i := 15) rfl (by kernel_rfl) ?_
  go_wp2
  refine And.intro X12.out ?_
  refine pl_done (by kernel_rfl) ?_
  go_wp2
  go_ret
  exact ⟨rfl, B12.out⟩
end Go.Proofs.Ytdljpgihfjpnjaa
