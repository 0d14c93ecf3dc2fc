/- WireNil: the walk. -/
import Derived.Test.YtdljpgihfjpnjaaLd
import Derived.Test.YtdljpgihfjpnjaaNa
namespace Go.Proofs.Ytdljpgihfjpnjaa
set_option linter.unusedVariables false
set_option linter.unusedSimpArgs false
open Go.RowKit

theorem Off.zero (w : World) (T : TypeId) : Off (w.alloc (.cells #[.slice none 0 0, .bool false, .bool false] T)) (.pointer (some ⟨w.heap.size, 0, none⟩)) := by
  refine .inr ⟨w.heap.size, rfl, lt_of_block (heap_alloc_new w _), ?_⟩
  have h := heap_alloc_new w (.cells #[.slice none 0 0, .bool false, .bool false] T)
  unfold World.cell?
  simp only
  rw [h]
  rfl

theorem Off.at {w : World} {a : Addr} (h : Off w (.pointer (some a))) : a.block < w.heap.size := by
  rcases h with h | ⟨r, h, hr, _⟩
  · cases h
  · cases h; exact hr

theorem Off.grown {w w' : World} {r0 r : Nat} (h : Off w (.pointer (some ⟨r0, 0, none⟩))) (hg : w.grownBy w' (some r)) (hne : r0 ≠ r) : Off w' (.pointer (some ⟨r0, 0, none⟩)) := by
  have hlt := h.at
  rcases h with h | ⟨q, h, _, hc⟩
  · cases h
  · cases h
    exact .inr ⟨r0, rfl, Nat.lt_of_lt_of_le hlt hg.size, (World.cell?_of_block (w := w) (a := ⟨r0, 2, none⟩) (hg.block r0 hlt (fun e => hne (Option.some.inj e)))).trans hc⟩

theorem Off.nil (w : World) : Off w (.pointer none) := .inl rfl

theorem blobB_long (ys : List UInt8) (h : 16777216 < ys.length) : wput (some []) (blobB ys) = none := by
  rw [blobB, if_neg (by omega), wput_none]

theorem blobB_fits (ys : List UInt8) (h : ys.length ≤ 16777216) : ∃ xs, wput (some []) (blobB ys) = some xs ∧ xs.length = 4 + ys.length :=
  ⟨_, by rw [blobB, if_pos h, wput_some]; rfl, by simp [le_length]⟩

theorem alloc_le (w : World) (o : Obj) : w.heap.size ≤ (w.alloc o).heap.size := Nat.le_of_lt (lt_of_block (heap_alloc_new w o))

set_option maxRecDepth 100000 in
set_option maxHeartbeats 4000000 in
theorem nil_any (w : World) :
    Calls Try.prog 5 #[] w fun e w' => e = .returned (.bool true) ∧ Below w.heap.size w w' := by
  obtain ⟨i0, hi, hz0, hz1, hz2⟩ := info_parts infoU8
  go_enter Try.func5, Try.ntmps5
  go_wp2_with fail
  have off0 := Off.zero w 50
  refine (Number_nil (w.alloc (.cells #[.slice none 0 0, .bool false, .bool false] 50)) 1 (by decide) 1).mono ?_
  rintro e w1 ⟨rfl, b1⟩
  have O1 : Hid (Off w1 (.pointer (some ⟨w.heap.size, 0, none⟩))) := off0.fresh b1
  have B1 : Hid (Below w.heap.size w w1) := ((Below.refl _ w).alloc (Nat.le_refl _) _).trans (b1.mono (alloc_le w _))
  clear off0 b1
  go_wp2_with fail
  refine (Blob_nil w1 none 0 0 (by decide)).mono ?_
  rintro e w2 ⟨rfl, b2⟩
  have O2 : Hid (Off w2 (.pointer (some ⟨w.heap.size, 0, none⟩))) := O1.out.fresh b2
  have B2 : Hid (Below w.heap.size w w2) := B1.out.trans (b2.mono B1.out.size)
  clear O1 B1 b2
  go_wp2_with fail
  refine (End_nil w2).mono ?_
  rintro e w3 ⟨rfl, rfl⟩
  go_wp2_with fail
  refine (End_good _ w2.heap.size _ [] (IsW.new w2) (by simp)).mono ?_
  rintro e w3 ⟨v3, rfl, o3, b3⟩
  have O3 : Hid (Off w3 (.pointer (some ⟨w.heap.size, 0, none⟩))) := (O2.out.fresh ((Below.refl _ w2).alloc (Nat.le_refl _) _)).fresh b3
  have B3 : Hid (Below w.heap.size w w3) := (B2.out.trans (((Below.refl _ w2).alloc (Nat.le_refl _) _).mono B2.out.size)).trans (b3.mono (Nat.le_trans B2.out.size (alloc_le w2 _)))
  obtain ⟨a3, c3, rfl⟩ := own_slice o3
  clear O2 B2 b3 o3
  obtain ⟨N, hN⟩ : ∃ N : Nat, N = 16777217 := ⟨_, rfl⟩
  go_wp2_with (with_reducible refine stopAt 30 ?_)
  refine Stop.go ?_
  refine wpList_make_full _ rfl _ _ 25 rfl w3.heap.size 5 i0 (.int .u8 0) 1 Try.underlying25 hi hz0 hz1 _ _ _ _ N rfl rfl (by rw [hN]; rfl) (by rw [hN]; rfl) (by rw [hz2]; omega) (by unfold maxLen; omega) (Nat.le_refl _) ?_
  intro w4 hown hgr
  have hb4 : BB w4 5 w3.heap.size (List.replicate N 0) := by
    refine BB.full (base := w3.heap.size) (n := N) ?_
    simpa [bvs, bv, Value.cells, toList_madeCells_one] using hown
  have b4 : Below w3.heap.size w3 w4 := Below.grown (Below.refl _ w3) hgr (Nat.le_refl _) (by simp)
  obtain ⟨L, hL, hLN⟩ : ∃ L : List UInt8, L = List.replicate N 0 ∧ L.length = N := ⟨_, rfl, by simp⟩
  rw [← hL] at hb4
  have O4 : Hid (Off w4 (.pointer (some ⟨w.heap.size, 0, none⟩))) := O3.out.fresh b4
  have B4 : Hid (Below w.heap.size w w4) := B3.out.trans (b4.mono B3.out.size)
  have HL := Lib.hid hL
  have HLN := Lib.hid hLN
  have HN := Lib.hid hN
  have hN1 : 16777216 < N := by omega
  have hN2 : N ≤ 16777217 := by omega
  have H4 := Lib.hid hb4
  clear hL hLN hN b4 hown hgr O3 hb4 B3
  go_wp2_with fail
  have hbx : BB (w4.alloc (.cells #[.slice none 0 0, .bool false] 54)) 5 w3.heap.size L := H4.out.fresh ((Below.refl _ w4).alloc (Nat.le_refl _) _)
  have hrd := hbx.rdAll (by rw [HLN.out]; unfold maxLen; omega)
  rw [HLN.out] at hrd
  refine (Blob_any _ w4.heap.size _ (some []) L (IsW.new w4) (.slice (some ⟨w3.heap.size, 0, none⟩) N N) (by rw [HLN.out]; exact hrd) (fun _ k hk hf => ?_) (fun xs hx => by cases hx; simp; rw [HLN.out]; omega)).mono ?_
  · have h1 := (IsW.new w4).fp hf
    have h2 := H4.out.lt
    simp [Value.ownBlock] at hk
    omega
  rintro e w5 ⟨rfl, i5, m5⟩
  rw [blobB_long L (by rw [HLN.out]; omega)] at i5
  have b5 : Below w4.heap.size w4 w5 := ((Below.refl _ w4).alloc (Nat.le_refl _) _).trans (m5.below (IsW.new w4))
  have O5 : Hid (Off w5 (.pointer (some ⟨w.heap.size, 0, none⟩))) := O4.out.fresh b5
  have B5 : Hid (Below w.heap.size w w5) := B4.out.trans (b5.mono B4.out.size)
  have H5 := Lib.hid (H4.out.fresh b5)
  clear b5 m5 hrd hbx O4 B4 H4
  go_wp2_with fail
  refine (End_bad _ _ _ i5).mono ?_
  rintro e w6 ⟨rfl, rfl⟩
  clear i5
  go_wp2_with fail
  have hbx : BB (w5.alloc (.cells #[.slice none 0 0, .bool false] 54)) 5 w3.heap.size L := H5.out.fresh ((Below.refl _ w5).alloc (Nat.le_refl _) _)
  have hrd := hbx.rd 1 (N - 1) (N - 1) (by rw [HLN.out]; omega) (Nat.le_refl _) (by unfold maxLen; omega)
  obtain ⟨M, hM, hMl⟩ : ∃ M : List UInt8, M = (L.drop 1).take (N - 1) ∧ M.length = N - 1 := ⟨_, rfl, by simp [HLN.out]⟩
  rw [← hM] at hrd
  clear hM
  refine (Blob_any _ w5.heap.size _ (some []) M (IsW.new w5) (.slice (some ⟨w3.heap.size, 1, none⟩) (N - 1) (N - 1)) (by rw [hMl]; exact hrd) (fun _ k hk hf => ?_) (fun xs hx => by cases hx; simp; rw [hMl]; omega)).mono ?_
  · have h1 := (IsW.new w5).fp hf
    have h2 := H5.out.lt
    simp [Value.ownBlock] at hk
    omega
  rintro e w7 ⟨rfl, i7, m7⟩
  obtain ⟨xs, hxs, hxl⟩ := blobB_fits M (by rw [hMl]; omega)
  rw [hxs] at i7
  have hxn : xs.length = 16777220 := by rw [hxl, hMl, HN.out]
  have b7 : Below w5.heap.size w5 w7 := ((Below.refl _ w5).alloc (Nat.le_refl _) _).trans (m7.below (IsW.new w5))
  have O7 : Hid (Off w7 (.pointer (some ⟨w.heap.size, 0, none⟩))) := O5.out.fresh b7
  have B7 : Hid (Below w.heap.size w w7) := B5.out.trans (b7.mono B5.out.size)
  have HX := Lib.hid hxn
  clear b7 m7 hrd hbx O5 B5 H5 hxs hxl hMl hxn
  go_wp2_with fail
  refine (End_good _ _ _ xs i7 (by rw [HX.out]; decide)).mono ?_
  rintro e w8 ⟨v8, rfl, o8, b8⟩
  obtain ⟨a8, c8, rfl⟩ := own_slice o8
  have O8 : Hid (Off w8 (.pointer (some ⟨w.heap.size, 0, none⟩))) := O7.out.fresh b8
  have B8 : Hid (Below w.heap.size w w8) := B7.out.trans (b8.mono B7.out.size)
  have hq : ((xs.length : Int) == 16777220) = true := by rw [HX.out]; rfl
  have HQ := Lib.hid hq
  clear b8 o8 i7 O7 B7 hq
  clear HL HLN HN hN1 hN2
  go_wp2_with fail
  have h9 := BB.new w8 5 [1, 0, 0, 1, 5]
  refine (Read_any (w8.alloc (.cells (bvs [1, 0, 0, 1, 5]).toArray 5)) (.slice (some ⟨w8.heap.size, 0, none⟩) 5 5) [1, 0, 0, 1, 5] (h9.rdAll (by decide)) (by decide)).mono ?_
  rintro e w9 ⟨r, rfl, hr, i9, b9⟩
  have b9' : Below w8.heap.size w8 w9 := ((Below.refl _ w8).alloc (Nat.le_refl _) _).trans (b9.mono (alloc_le w8 _))
  have O9 : Hid (Off w9 (.pointer (some ⟨w.heap.size, 0, none⟩))) := O8.out.fresh b9'
  have B9 : Hid (Below w.heap.size w w9) := B8.out.trans (b9'.mono B8.out.size)
  have hrw : w.heap.size < r := by have : w.heap.size < w8.heap.size := O8.out.at; have := alloc_le w8 (.cells (bvs [1, 0, 0, 1, 5]).toArray 5); omega
  clear b9 b9' h9 O8 B8 hr
  go_wp2_with fail
  refine (rblob_any' w9 r _ _ i9).mono ?_
  rw [show rblob (some [1, 0, 0, 1, 5]) = ([], none) by rfl]
  rintro e w10 ⟨v10, rfl, rd10, i10, g10⟩
  obtain ⟨a10, c10, rfl⟩ := rd10.slice
  have O10 := Lib.hid (O9.out.grown g10 (by omega))
  have B10 : Hid (Below w.heap.size w w10) := B9.out.trans (grown_below g10 (by omega) B9.out.size)
  clear rd10 O9 B9 g10 i9
  simp only [List.length_nil]
  go_wp2_with fail
  refine (num_any _ _).mono ?_
  rintro e x ⟨rfl, rfl⟩
  go_wp2_with fail
  refine (num_any _ _).mono ?_
  rintro e x ⟨rfl, rfl⟩
  go_wp2_with fail
  refine (num_any _ _).mono ?_
  rintro e x ⟨rfl, rfl⟩
  have hxi : (xs.length : Int) = 16777220 := by rw [HX.out]; rfl
  go_wp2_with fail
  refine (num_any _ _).mono ?_
  rintro e x ⟨rfl, rfl⟩
  clear hxi
  go_wp2_with fail
  refine (rend_any w10 r _ none i10).mono ?_
  rintro e x ⟨rfl, rfl⟩
  rw [show rend none = 4 from rfl]
  go_wp2_with fail
  refine (num_any _ _).mono ?_
  rintro e x ⟨rfl, rfl⟩
  go_wp2_with fail
  refine (rleft_any w10 r _ none i10).mono ?_
  rintro e x ⟨rfl, rfl⟩
  rw [show rleft none = 0 from rfl]
  clear i10
  have On := Lib.hid (Off.nil w10)
  go_wp2_with fail
  refine (rend_off w10 _ On).mono ?_
  rintro e x ⟨rfl, rfl⟩
  go_wp2_with fail
  refine (num_any _ _).mono ?_
  rintro e x ⟨rfl, rfl⟩
  go_wp2_with fail
  refine (rend_off w10 _ O10).mono ?_
  rintro e x ⟨rfl, rfl⟩
  go_wp2_with fail
  refine (num_any _ _).mono ?_
  rintro e x ⟨rfl, rfl⟩
  go_wp2_with fail
  refine (rnumber_off w10 _ On 1).mono ?_
  rintro e x ⟨rfl, rfl⟩
  go_wp2_with fail
  refine (rbytes_off w10 _ O10 0).mono ?_
  rintro e x ⟨rfl, rfl⟩
  go_wp2_with fail
  refine (rleft_off w10 _ On).mono ?_
  rintro e x ⟨rfl, rfl⟩
  go_wp2_with fail
  refine (rcount_off w10 _ O10).mono ?_
  rintro e x ⟨rfl, rfl⟩
  go_wp2_with fail
  refine (rhash_off w10 _ On).mono ?_
  rintro e w11 ⟨rfl, b11⟩
  have B11 : Hid (Below w.heap.size w w11) := B10.out.trans (b11.mono B10.out.size)
  clear b11 On O10 B10
  go_wp2_with (with_reducible refine stopAt 135 ?_)
  refine Stop.go ?_
  refine wpList_bin_g rfl .eql 30 30 (.tmp 133) (.tmp 134) rfl (.bool true) (eqGuard_agg _ _ _ _ _ _ _ (by kernel_rfl)) (hash_eq w11 (List.replicate 32 0) (List.replicate 32 0) rfl rfl) ?_
  go_wp2_with fail
  refine (known_any _).mono ?_
  rintro e w12 ⟨rfl, b12⟩
  have B12 : Hid (Below w.heap.size w w12) := B11.out.trans (b12.mono B11.out.size)
  clear b12 B11
  go_wp2
  go_ret
  exact ⟨rfl, B12.out⟩
end Go.Proofs.Ytdljpgihfjpnjaa
