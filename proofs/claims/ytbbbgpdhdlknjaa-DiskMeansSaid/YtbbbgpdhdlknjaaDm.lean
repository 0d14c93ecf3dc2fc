/- Disks: what is known of them: the law's walk. -/
import Derived.Test.YtbbbgpdhdlknjaaDl
import Derived.Lib.SlBytesConst
namespace Go.Proofs.Ytbbbgpdhdlknjaa
set_option linter.unusedVariables false
set_option linter.unusedSimpArgs false
open Go.RowKit Go.Lib

/-- A disk made here: from w0 to w nothing has turned that was there before. -/
def Own [Inhabited (Option Nat)] (B : Nat) (w0 w : World) (D S : Nat) (wv : Value) (k : Dk) : Prop := DkAt w D S wv k ∧ Below B w0 w ∧ B ≤ D ∧ B ≤ S ∧ (∀ g, wv.ownBlock = some g → B ≤ g) ∧ B ≤ w0.heap.size

theorem Own.step [Inhabited (Option Nat)] {B : Nat} {w0 w w' : World} {D S : Nat} {wv wv' : Value} {k k' : Dk} (h : Own B w0 w D S wv k) (hd : DkAt w' D S wv' k') (hm : Mv D S wv w w') (hg : Grew w wv wv') : Own B w0 w' D S wv' k' := by
  obtain ⟨_, b, h1, h2, h3, h4⟩ := h
  have hs : B ≤ w.heap.size := Nat.le_trans h4 b.size
  refine ⟨hd, b.trans (hm.below h1 h2 h3 hs), h1, h2, fun g hgb => ?_, h4⟩
  rcases hg g hgb with h | h
  · exact h3 g h
  · exact Nat.le_trans hs h

theorem Own.fresh [Inhabited (Option Nat)] {B : Nat} {w0 w w' : World} {D S : Nat} {wv : Value} {k : Dk} (h : Own B w0 w D S wv k) (hb : Below w.heap.size w w') : Own B w0 w' D S wv k := by
  obtain ⟨hd, b, h1, h2, h3, h4⟩ := h
  exact ⟨hd.fresh hb, b.trans (hb.mono (Nat.le_trans h4 b.size)), h1, h2, h3, h4⟩

theorem lit_bytes [Inhabited (Option Nat)] (w : World) (L : Bs) (fz : Nat × Nat) (hl : L.length ≤ maxLen) (ha : Av w.heap.size) : ∃ w', w' = w.alloc (.cells (bvs L).toArray 5 fz) ∧ RdU w' (.slice (some ⟨w.heap.size, 0, none⟩) L.length L.length) L ∧ Below w.heap.size w w' := by
  refine ⟨_, rfl, ⟨⟨by simp, .inr ⟨⟨w.heap.size, 0, none⟩, L.length, rfl, Nat.le_refl _, hl, fun j u hj => ?_⟩⟩, fun g hg => ?_⟩, (Below.refl _ w).alloc (Nat.le_refl _) _⟩
  · rw [add_at, Nat.zero_add]
    simp only [World.cell?, heap_alloc_new]
    simpa using hj
  · simp only [Value.ownBlock, Option.some.injEq] at hg
    subst hg
    exact ⟨⟨_, _, heap_alloc_new w _⟩, fun e => by have := ha _ e; omega⟩

theorem noAv (B : Nat) : Av B := fun x h => nomatch (show (none : Option Nat) = some x from h)

theorem num_any (w : World) (x : Int) : Calls Try.prog 13 #[.int .i64 x] w fun e w' => e = .returned (.int .i64 x) ∧ w = w' := by
  go_enter Try.func13, Try.ntmps13
  go_wp2
  go_ret
  exact ⟨rfl, rfl⟩

def knA : Dk := (appK newK 0 [97, 98]).2
def knB : Dk := (syncK knA).2
def knC : Dk := (appK knB 0 [99, 100]).2
theorem knA_ok : Ok knA := newK_ok.append 0 [97, 98]
theorem knB_ok : Ok knB := knA_ok.sync
theorem knC_ok : Ok knC := knB_ok.append 0 [99, 100]

set_option maxRecDepth 100000 in
set_option maxHeartbeats 4000000 in
theorem known_any (w : World) : Calls Try.prog 7 #[] w fun e w' => e = .returned (.bool true) ∧ Below w.heap.size w w' := by
  go_enter Try.func7, Try.ntmps7
  go_wp2
  go_loopw [1] (fun v1 wr => Below w.heap.size w wr ∧ ∃ k : Nat, k ≤ 2 ∧ v1 = .int .i64 (k : Int))
    (fun v _ => 2 - (RowKit.intOf v).toNat)
  case atStart => exact ⟨Below.refl _ _, 0, Nat.zero_le _, rfl⟩
  case round =>
    obtain ⟨hb, k, hk, rfl⟩ := hrel
    have HB := Lib.hid hb
    clear hb
    obtain rfl | rfl | rfl : k = 0 ∨ k = 1 ∨ k = 2 := by omega
    · clear hk
      go_wp2_with fail
      refine (new_any wr).mono ?_
      rintro e w1 ⟨rfl, d1, b1, s1⟩
      have O1 : Hid (Own wr.heap.size wr w1 (wr.heap.size + 1) wr.heap.size (.slice none 0 0) newK) := Lib.hid ⟨d1, b1, by omega, Nat.le_refl _, fun g hg => (by cases hg), Nat.le_refl _⟩
      have S1 := Lib.hid s1
      clear d1 b1 s1
      have hcv := Go.Lib.run_convert_bytes_const (P := Try.prog) w1 29 5 #[.int .u8 97, .int .u8 98] 2 2 Try.underlying29 Try.underlying5
      go_wp2_with fail
      obtain ⟨w2, h2, r2, b2⟩ := lit_bytes w1 [97, 98] (2, 3) (by decide) (noAv _)
      change Calls _ _ _ (w1.alloc (.cells (bvs [97, 98]).toArray 5 (2, 3))) _
      rw [← h2]
      have O2 := Lib.hid (O1.out.fresh b2)
      clear h2 hcv b2 O1
      refine (append_any w2 _ _ _ newK 0 _ [97, 98] O2.out.1 (by decide) r2.1 (by decide) (by decide) (by decide) newK_ok.nl (by decide) (noAv _)).mono ?_
      rintro e w3 ⟨rfl, v3, d3, m3, g3⟩
      have O3 : Hid (Own wr.heap.size wr w3 (wr.heap.size + 1) wr.heap.size v3 knA) := Lib.hid (O2.out.step d3 m3 g3)
      clear d3 m3 g3 r2 O2
      rw [show (appK newK 0 [97, 98]).1 = 0 from rfl]
      go_wp2_with fail
      refine (num_any w3 0).mono ?_
      rintro e w3 ⟨rfl, rfl⟩
      go_wp2_with fail
      refine (sync_any w3 _ _ _ knA O3.out.1 knA_ok.f0 knA_ok.f1 (by decide) knA_ok.pre (noAv _)).mono ?_
      rintro e w4 ⟨rfl, v4, d4, m4, g4⟩
      have O4 : Hid (Own wr.heap.size wr w4 (wr.heap.size + 1) wr.heap.size v4 knB) := Lib.hid (O3.out.step d4 m4 g4)
      clear d4 m4 g4 O3
      rw [show (syncK knA).1 = 0 from rfl]
      go_wp2_with fail
      refine (num_any w4 0).mono ?_
      rintro e w4 ⟨rfl, rfl⟩
      have hcv := Go.Lib.run_convert_bytes_const (P := Try.prog) w4 29 5 #[.int .u8 99, .int .u8 100] 2 2 Try.underlying29 Try.underlying5
      go_wp2_with fail
      obtain ⟨w5, h5, r5, b5⟩ := lit_bytes w4 [99, 100] (2, 3) (by decide) (noAv _)
      change Calls _ _ _ (w4.alloc (.cells (bvs [99, 100]).toArray 5 (2, 3))) _
      rw [← h5]
      have O5 := Lib.hid (O4.out.fresh b5)
      clear h5 hcv b5 O4
      refine (append_any w5 _ _ _ knB 0 _ [99, 100] O5.out.1 (by decide) r5.1 (by decide) knB_ok.f0 knB_ok.f1 knB_ok.nl (by decide) (noAv _)).mono ?_
      rintro e w6 ⟨rfl, v6, d6, m6, g6⟩
      have O6 : Hid (Own wr.heap.size wr w6 (wr.heap.size + 1) wr.heap.size v6 knC) := Lib.hid (O5.out.step d6 m6 g6)
      clear d6 m6 g6 r5 O5
      rw [show (appK knB 0 [99, 100]).1 = 0 from rfl]
      go_wp2_with fail
      refine (num_any w6 0).mono ?_
      rintro e w6 ⟨rfl, rfl⟩
      go_wp2_with fail
      refine (crash_any w6 _ _ _ knC O6.out.1 knC_ok (by decide) 0 0 (by decide) (by decide) (by decide) (by decide) (noAv _)).mono ?_
      rintro e w7 ⟨rfl, v7, d7, m7, g7⟩
      have O7 : Hid (Own wr.heap.size wr w7 (wr.heap.size + 1) wr.heap.size v7 (crashK knC 0 0)) := Lib.hid (O6.out.step d7 m7 g7)
      clear d7 m7 g7 O6
      go_wp2_with fail
      refine (num_any w7 0).mono ?_
      rintro e w7 ⟨rfl, rfl⟩
      go_wp2_with fail
      refine (read_any w7 _ _ _ (crashK knC 0 0) 0 O7.out.1 (by decide) (by decide)).mono ?_
      rintro e w8 ⟨v8, rfl, o8, b8⟩
      have O8 := Lib.hid (O7.out.fresh b8)
      have R8 : Hid (Rd w8 1 v8 ([97, 98] : Bs).length (bvs [97, 98])) := Lib.hid (Rd.of_own o8)
      obtain ⟨a8, c8, rfl⟩ := R8.out.slice
      clear o8 b8 O7
      have hS : Hid (Rd w8.drew 1 (.slice a8 ([97, 98] : Bs).length c8) ([97, 98] : Bs).length (bvs [97, 98])) := Lib.hid (R8.out.fresh (Below.refl _ w8).drew)
      go_wp2_with fail
      refine pl_start 11 rfl (fun w' => Rd w' 1 (.slice a8 ([97, 98] : Bs).length c8) ([97, 98] : Bs).length (bvs [97, 98])) (by kernel_rfl) ?_
      refine pl_take (i := 0) 40 rfl rfl rfl (by kernel_rfl) (by kernel_rfl) (by kernel_rfl) (by simp [Act.put]) hS.out ?_
      apply Exists.intro
      refine And.intro (fun w' hS' => ?_) ?_
      · go_wp2
        first
          | exact ⟨trivial, rfl⟩
          | exact rfl
      refine pl_take (i := 1) 41 rfl rfl rfl (by kernel_rfl) (by kernel_rfl) (by kernel_rfl) (by simp [Act.put]) hS.out ?_
      apply Exists.intro
      refine And.intro (fun w' hS' => ?_) ?_
      · have hcv := Rd.conv (P := Try.prog) hS' 29 9 5 Try.underlying29 Try.underlying5 Try.underlying9
        rw [show ([97, 98] : Bs).length = 2 from rfl, show ([97, 98] : Bs).toArray = #[97, 98] from rfl] at hcv
        clear hS'
        go_wp2
        first
          | exact ⟨trivial, rfl⟩
          | exact rfl
      have hext : ByteArray.extract { data := #[97, 98, 99] } 0 2 = { data := #[97, 98] } := by decide
      refine pl_take (i := 2) 42 rfl rfl rfl (by kernel_rfl) (by kernel_rfl) (by kernel_rfl) (by simp [Act.put]) hS.out ?_
      apply Exists.intro
      refine And.intro (fun w' hS' => ?_) ?_
      · go_wp2
        first
          | exact ⟨trivial, rfl⟩
          | exact rfl
      refine pl_take (i := 3) 43 rfl rfl rfl (by kernel_rfl) (by kernel_rfl) (by kernel_rfl) (by simp [Act.put]) hS.out ?_
      apply Exists.intro
      refine And.intro (fun w' hS' => ?_) ?_
      · go_wp2
        first
          | exact ⟨trivial, rfl⟩
          | exact rfl
      refine pl_take (i := 4) 44 rfl rfl rfl (by kernel_rfl) (by kernel_rfl) (by kernel_rfl) (by simp [Act.put]) hS.out ?_
      apply Exists.intro
      refine And.intro (fun w' hS' => ?_) ?_
      · go_wp2
        first
          | exact ⟨trivial, rfl⟩
          | exact rfl
      refine pl_take (i := 5) 45 rfl rfl rfl (by kernel_rfl) (by kernel_rfl) (by kernel_rfl) (by simp [Act.put]) hS.out ?_
      apply Exists.intro
      refine And.intro (fun w' hS' => ?_) ?_
      · clear hS'
        go_wp2
        first
          | exact ⟨trivial, rfl⟩
          | exact rfl
      refine pl_take (i := 6) 46 rfl rfl rfl (by kernel_rfl) (by kernel_rfl) (by kernel_rfl) (by simp [Act.put]) hS.out ?_
      apply Exists.intro
      refine And.intro (fun w' hS' => ?_) ?_
      · clear hS'
        go_wp2
        first
          | exact ⟨trivial, rfl⟩
          | exact rfl
      refine pl_take (i := 7) 47 rfl rfl rfl (by kernel_rfl) (by kernel_rfl) (by kernel_rfl) (by simp [Act.put]) hS.out ?_
      apply Exists.intro
      refine And.intro (fun w' hS' => ?_) ?_
      · refine wpList_unguard' rfl ?_
        clear hS'
        go_wp2
        first
          | exact ⟨trivial, rfl⟩
          | exact rfl
      refine pl_heavy (i := 8) rfl (by kernel_rfl) ?_
      refine wpList_unguard' rfl ?_
      go_wp2_with fail
      refine (num_any w8.drew 0).mono ?_
      rintro e w9 ⟨rfl, rfl⟩
      go_wp2
      refine And.intro hS.out ?_
      refine pl_take (i := 9) 49 rfl rfl rfl (by kernel_rfl) (by kernel_rfl) (by kernel_rfl) (by simp [Act.put]) hS.out ?_
      apply Exists.intro
      refine And.intro (fun w' hS' => ?_) ?_
      · refine wpList_unguard' rfl ?_
        clear hS'
        go_wp2
        first
          | exact ⟨trivial, rfl⟩
          | exact rfl
      refine pl_take (i := 10) 50 rfl rfl rfl (by kernel_rfl) (by kernel_rfl) (by kernel_rfl) (by simp [Act.put]) hS.out ?_
      apply Exists.intro
      refine And.intro (fun w' hS' => ?_) ?_
      · clear hS'
        go_wp2
        first
          | exact ⟨trivial, rfl⟩
          | exact rfl
      refine pl_done (by kernel_rfl) ?_
      have BE : Hid (Below w.heap.size w w8) := Lib.hid (HB.out.trans (O8.out.2.1.mono HB.out.size))
      have BE2 : Hid (Below w.heap.size w w8.drew) := Lib.hid BE.out.drew
      clear hS R8 O8 BE
      go_wp2
      go_roundw
      case rel => exact ⟨BE2.out, 0 + 1, by decide, by go_num⟩
      case measure => simp [RowKit.intOf]
    · clear hk
      go_wp2_with fail
      refine (new_any wr).mono ?_
      rintro e w1 ⟨rfl, d1, b1, s1⟩
      have O1 : Hid (Own wr.heap.size wr w1 (wr.heap.size + 1) wr.heap.size (.slice none 0 0) newK) := Lib.hid ⟨d1, b1, by omega, Nat.le_refl _, fun g hg => (by cases hg), Nat.le_refl _⟩
      have S1 := Lib.hid s1
      clear d1 b1 s1
      have hcv := Go.Lib.run_convert_bytes_const (P := Try.prog) w1 29 5 #[.int .u8 97, .int .u8 98] 2 2 Try.underlying29 Try.underlying5
      go_wp2_with fail
      obtain ⟨w2, h2, r2, b2⟩ := lit_bytes w1 [97, 98] (2, 3) (by decide) (noAv _)
      change Calls _ _ _ (w1.alloc (.cells (bvs [97, 98]).toArray 5 (2, 3))) _
      rw [← h2]
      have O2 := Lib.hid (O1.out.fresh b2)
      clear h2 hcv b2 O1
      refine (append_any w2 _ _ _ newK 0 _ [97, 98] O2.out.1 (by decide) r2.1 (by decide) (by decide) (by decide) newK_ok.nl (by decide) (noAv _)).mono ?_
      rintro e w3 ⟨rfl, v3, d3, m3, g3⟩
      have O3 : Hid (Own wr.heap.size wr w3 (wr.heap.size + 1) wr.heap.size v3 knA) := Lib.hid (O2.out.step d3 m3 g3)
      clear d3 m3 g3 r2 O2
      rw [show (appK newK 0 [97, 98]).1 = 0 from rfl]
      go_wp2_with fail
      refine (num_any w3 0).mono ?_
      rintro e w3 ⟨rfl, rfl⟩
      go_wp2_with fail
      refine (sync_any w3 _ _ _ knA O3.out.1 knA_ok.f0 knA_ok.f1 (by decide) knA_ok.pre (noAv _)).mono ?_
      rintro e w4 ⟨rfl, v4, d4, m4, g4⟩
      have O4 : Hid (Own wr.heap.size wr w4 (wr.heap.size + 1) wr.heap.size v4 knB) := Lib.hid (O3.out.step d4 m4 g4)
      clear d4 m4 g4 O3
      rw [show (syncK knA).1 = 0 from rfl]
      go_wp2_with fail
      refine (num_any w4 0).mono ?_
      rintro e w4 ⟨rfl, rfl⟩
      have hcv := Go.Lib.run_convert_bytes_const (P := Try.prog) w4 29 5 #[.int .u8 99, .int .u8 100] 2 2 Try.underlying29 Try.underlying5
      go_wp2_with fail
      obtain ⟨w5, h5, r5, b5⟩ := lit_bytes w4 [99, 100] (2, 3) (by decide) (noAv _)
      change Calls _ _ _ (w4.alloc (.cells (bvs [99, 100]).toArray 5 (2, 3))) _
      rw [← h5]
      have O5 := Lib.hid (O4.out.fresh b5)
      clear h5 hcv b5 O4
      refine (append_any w5 _ _ _ knB 0 _ [99, 100] O5.out.1 (by decide) r5.1 (by decide) knB_ok.f0 knB_ok.f1 knB_ok.nl (by decide) (noAv _)).mono ?_
      rintro e w6 ⟨rfl, v6, d6, m6, g6⟩
      have O6 : Hid (Own wr.heap.size wr w6 (wr.heap.size + 1) wr.heap.size v6 knC) := Lib.hid (O5.out.step d6 m6 g6)
      clear d6 m6 g6 r5 O5
      rw [show (appK knB 0 [99, 100]).1 = 0 from rfl]
      go_wp2_with fail
      refine (num_any w6 0).mono ?_
      rintro e w6 ⟨rfl, rfl⟩
      go_wp2_with fail
      refine (crash_any w6 _ _ _ knC O6.out.1 knC_ok (by decide) 0 1 (by decide) (by decide) (by decide) (by decide) (noAv _)).mono ?_
      rintro e w7 ⟨rfl, v7, d7, m7, g7⟩
      have O7 : Hid (Own wr.heap.size wr w7 (wr.heap.size + 1) wr.heap.size v7 (crashK knC 0 1)) := Lib.hid (O6.out.step d7 m7 g7)
      clear d7 m7 g7 O6
      go_wp2_with fail
      refine (num_any w7 0).mono ?_
      rintro e w7 ⟨rfl, rfl⟩
      go_wp2_with fail
      refine (read_any w7 _ _ _ (crashK knC 0 1) 0 O7.out.1 (by decide) (by decide)).mono ?_
      rintro e w8 ⟨v8, rfl, o8, b8⟩
      have O8 := Lib.hid (O7.out.fresh b8)
      have R8 : Hid (Rd w8 1 v8 ([97, 98, 99] : Bs).length (bvs [97, 98, 99])) := Lib.hid (Rd.of_own o8)
      obtain ⟨a8, c8, rfl⟩ := R8.out.slice
      clear o8 b8 O7
      have hS : Hid (Rd w8.drew 1 (.slice a8 ([97, 98, 99] : Bs).length c8) ([97, 98, 99] : Bs).length (bvs [97, 98, 99])) := Lib.hid (R8.out.fresh (Below.refl _ w8).drew)
      go_wp2_with fail
      refine pl_start 11 rfl (fun w' => Rd w' 1 (.slice a8 ([97, 98, 99] : Bs).length c8) ([97, 98, 99] : Bs).length (bvs [97, 98, 99])) (by kernel_rfl) ?_
      refine pl_take (i := 0) 40 rfl rfl rfl (by kernel_rfl) (by kernel_rfl) (by kernel_rfl) (by simp [Act.put]) hS.out ?_
      apply Exists.intro
      refine And.intro (fun w' hS' => ?_) ?_
      · go_wp2
        first
          | exact ⟨trivial, rfl⟩
          | exact rfl
      refine pl_take (i := 1) 41 rfl rfl rfl (by kernel_rfl) (by kernel_rfl) (by kernel_rfl) (by simp [Act.put]) hS.out ?_
      apply Exists.intro
      refine And.intro (fun w' hS' => ?_) ?_
      · have hcv := Rd.conv (P := Try.prog) hS' 29 9 5 Try.underlying29 Try.underlying5 Try.underlying9
        rw [show ([97, 98, 99] : Bs).length = 3 from rfl, show ([97, 98, 99] : Bs).toArray = #[97, 98, 99] from rfl] at hcv
        clear hS'
        go_wp2
        first
          | exact ⟨trivial, rfl⟩
          | exact rfl
      have hext : ByteArray.extract { data := #[97, 98, 99] } 0 3 = { data := #[97, 98, 99] } := by decide
      refine pl_take (i := 2) 42 rfl rfl rfl (by kernel_rfl) (by kernel_rfl) (by kernel_rfl) (by simp [Act.put]) hS.out ?_
      apply Exists.intro
      refine And.intro (fun w' hS' => ?_) ?_
      · go_wp2
        first
          | exact ⟨trivial, rfl⟩
          | exact rfl
      refine pl_take (i := 3) 43 rfl rfl rfl (by kernel_rfl) (by kernel_rfl) (by kernel_rfl) (by simp [Act.put]) hS.out ?_
      apply Exists.intro
      refine And.intro (fun w' hS' => ?_) ?_
      · go_wp2
        first
          | exact ⟨trivial, rfl⟩
          | exact rfl
      refine pl_take (i := 4) 44 rfl rfl rfl (by kernel_rfl) (by kernel_rfl) (by kernel_rfl) (by simp [Act.put]) hS.out ?_
      apply Exists.intro
      refine And.intro (fun w' hS' => ?_) ?_
      · go_wp2
        first
          | exact ⟨trivial, rfl⟩
          | exact rfl
      refine pl_take (i := 5) 45 rfl rfl rfl (by kernel_rfl) (by kernel_rfl) (by kernel_rfl) (by simp [Act.put]) hS.out ?_
      apply Exists.intro
      refine And.intro (fun w' hS' => ?_) ?_
      · clear hS'
        go_wp2
        first
          | exact ⟨trivial, rfl⟩
          | exact rfl
      refine pl_take (i := 6) 46 rfl rfl rfl (by kernel_rfl) (by kernel_rfl) (by kernel_rfl) (by simp [Act.put]) hS.out ?_
      apply Exists.intro
      refine And.intro (fun w' hS' => ?_) ?_
      · clear hS'
        go_wp2
        first
          | exact ⟨trivial, rfl⟩
          | exact rfl
      refine pl_take (i := 7) 47 rfl rfl rfl (by kernel_rfl) (by kernel_rfl) (by kernel_rfl) (by simp [Act.put]) hS.out ?_
      apply Exists.intro
      refine And.intro (fun w' hS' => ?_) ?_
      · refine wpList_unguard' rfl ?_
        clear hS'
        go_wp2
        first
          | exact ⟨trivial, rfl⟩
          | exact rfl
      refine pl_heavy (i := 8) rfl (by kernel_rfl) ?_
      refine wpList_unguard' rfl ?_
      go_wp2_with fail
      refine (num_any w8.drew 0).mono ?_
      rintro e w9 ⟨rfl, rfl⟩
      go_wp2
      refine And.intro hS.out ?_
      refine pl_take (i := 9) 49 rfl rfl rfl (by kernel_rfl) (by kernel_rfl) (by kernel_rfl) (by simp [Act.put]) hS.out ?_
      apply Exists.intro
      refine And.intro (fun w' hS' => ?_) ?_
      · refine wpList_unguard' rfl ?_
        clear hS'
        go_wp2
        first
          | exact ⟨trivial, rfl⟩
          | exact rfl
      refine pl_take (i := 10) 50 rfl rfl rfl (by kernel_rfl) (by kernel_rfl) (by kernel_rfl) (by simp [Act.put]) hS.out ?_
      apply Exists.intro
      refine And.intro (fun w' hS' => ?_) ?_
      · clear hS'
        go_wp2
        first
          | exact ⟨trivial, rfl⟩
          | exact rfl
      refine pl_done (by kernel_rfl) ?_
      have BE : Hid (Below w.heap.size w w8) := Lib.hid (HB.out.trans (O8.out.2.1.mono HB.out.size))
      have BE2 : Hid (Below w.heap.size w w8.drew) := Lib.hid BE.out.drew
      clear hS R8 O8 BE
      go_wp2
      go_roundw
      case rel => exact ⟨BE2.out, 1 + 1, by decide, by go_num⟩
      case measure => simp [RowKit.intOf]
    · go_wp2
      go_ret
      exact ⟨rfl, HB.out⟩

end Go.Proofs.Ytbbbgpdhdlknjaa
