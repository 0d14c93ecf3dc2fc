/- Merkle: the root: the walk. -/
import Derived.Test.YtkbahhnjoidhcaaG4
import Derived.Test.YtkbahhnjoidhcaaG1
namespace Go.Proofs.Ytkbahhnjoidhcaa
set_option linter.unusedVariables false
set_option linter.unusedSimpArgs false
open Go.RowKit Go.Lib

/-- The root of hashes. -/
def rootB (l : List Bs) : Bs := topB l.length (if l = [] then [] else leftM knotB [] 20 (l.map leafB))

theorem cnt_le (c t : Nat) (h : 1 ≤ c) : cnt c t ≤ c := by
  induction t with
  | zero => exact Nat.le_refl _
  | succ t ih => simp only [cnt]; omega

theorem leaves_h32 (l : List Bs) : H32 (l.map leafB) := by
  intro x hx
  obtain ⟨y, _, rfl⟩ := List.mem_map.1 hx
  exact leafB_length y

theorem upN_h32 {l : List Bs} (h : H32 l) (t : Nat) : H32 (upN knotB t l) := by
  induction t with
  | zero => exact h
  | succ t ih => exact up_h32 ih

theorem Hs.under {w w' : World} {v : Value} {l : List Bs} (h : Hs w v l) (hb : Below w.heap.size w w') : Hs w' v l := h.fresh hb

/-- A pointer's array, sliced whole: 32 bytes. -/
theorem Hs.rd {w : World} {ad : Addr} {n c : Nat} {l : List Bs} (h : Hs w (.slice (some ad) n c) l) {i : Nat} {x : Bs} (hi : l[i]? = some x) : Rd w 1 (.slice (some (ad.add (i * 32))) 32 32) 32 (bvs x) :=
  ⟨by rw [bvs_length, h.1.get hi], .inr ⟨_, _, rfl, Nat.le_refl _, by decide, h.elem' hi⟩⟩

theorem Hs.part {w : World} {a : Option Addr} {n c : Nat} {l : List Bs} (h : Hs w (.slice a n c) l) (hn : n = l.length) (o k : Nat) (ho : o + k ≤ n) :
    Hs w (.slice (if c = o then a else a.map (·.add (o * 32))) k (c - o)) ((l.drop o).take k) := by
  have h1 := h.2
  rw [← hn] at h1
  have h2 := Rd.sub h1 o k ho
  refine ⟨(h.1.drop o).take k, ?_⟩
  rw [List.length_take, List.length_drop, ← hn, show min k (n - o) = k by omega, (h.1.drop o).take_flat, h.1.drop_flat]
  simpa [bvs, List.map_take, List.map_drop] using h2

set_option maxRecDepth 100000 in
set_option maxHeartbeats 1000000 in
theorem mroot_any (w : World) (v : Value) (l : List Bs) (h : Hs w v l) (hl : l.length ≤ 1048576) :
    Calls Try.prog 81 #[v] w fun e w' => e = .returned (.agg (bvs (rootB l)).toArray) ∧ Below w.heap.size w w' := by
  obtain ⟨a0, c0, rfl⟩ := h.slice
  obtain ⟨Z, hZ⟩ : ∃ Z, Z = rootB l := ⟨_, rfl⟩
  have hZl : Hid (Z.length = 32) := Lib.hid (by rw [hZ]; exact topB_length _ _)
  rw [← hZ]
  obtain ⟨ls, hls⟩ : ∃ ls, ls = l.map leafB := ⟨_, rfl⟩
  have CL := fun w0 h0 => leaves_any w0 (.slice a0 l.length c0) l h0 hl
  rw [← hls] at CL
  obtain ⟨N, hN⟩ : ∃ N, N = l.length := ⟨_, rfl⟩
  rw [← hN] at h hl CL ⊢
  have lsl : ls.length = N := by rw [hls, hN, List.length_map]
  have ls32 : H32 ls := by rw [hls]; exact leaves_h32 l
  have hz0 : N = 0 → Z = topB 0 [] := by
    intro h0
    have : l = [] := List.eq_nil_of_length_eq_zero (by omega)
    rw [hZ, this]; rfl
  have hz1 : ∀ t, (upN knotB t ls).length ≤ 1 → 0 < N → ∃ x, upN knotB t ls = [x] ∧ Z = topB N x := by
    intro t h1 h0
    refine ⟨_, upN_end knotB [] t 20 ls (by omega) (by omega) h1, ?_⟩
    rw [hZ, rootB, if_neg (by intro e; rw [e] at hN; simp at hN; omega), ← hls, hN]
  have H := Lib.hid h
  have HLS := Lib.hid (And.intro lsl ls32)
  have HZ0 := Lib.hid hz0
  have HZ1 := Lib.hid hz1
  replace CL := Lib.hid CL
  have HL := Lib.hid hl
  have bN : (N : Int) ≤ 1048576 := by omega
  clear h hls lsl ls32 hz0 hz1 hZ hN hl
  go_enter Try.func81, Try.ntmps81
  go_wp2_with fail
  obtain ⟨w1, h1, k1, b1, s1⟩ := alloc_cb w 24 (bvs (List.replicate 32 0))
  change Calls _ _ _ (w.alloc (.cells (bvs (List.replicate 32 0)).toArray 24)) _
  rw [← h1]
  refine (CL.out w1 (H.out.fresh b1)).mono ?_
  rintro e w2 ⟨v2, rfl, o2, b2⟩
  have hs2 := Lib.hid o2.hs
  have B2 := Lib.hid (b1.tr b2)
  have K2 := Lib.hid (k1.fresh b2)
  clear o2 b1 b2 k1 s1 h1
  obtain ⟨a2, c2, rfl⟩ := hs2.out.slice
  go_wp2
  go_loopw [3] (fun v3 wr => ∃ t, Hs wr v3 (upN knotB t ls) ∧ CB wr 24 w.heap.size (bvs (List.replicate 32 0)) ∧ Below w.heap.size w wr)
    (fun v _ => sliceLen v)
  case atStart => exact ⟨0, hs2.out, K2.out, B2.out⟩
  case round =>
    obtain ⟨t, hs, hk, hb⟩ := hrel
    obtain ⟨n, hn⟩ : ∃ n, n = (upN knotB t ls).length := ⟨_, rfl⟩
    obtain ⟨a3, c3, rfl⟩ := hs.slice' hn.symm
    have HS := Lib.hid hs
    have HK := Lib.hid hk
    have HB := Lib.hid hb
    have HN := Lib.hid hn
    have hnN : n ≤ N := by
      have := HLS.out.1
      rw [hn, upN_length, this]
      rcases Nat.eq_zero_or_pos N with h0 | h0
      · subst h0
        have : cnt 0 t = 0 := by clear hn hs HS HN; induction t with
          | zero => rfl
          | succ t ih => rw [cnt, ih]
        omega
      · exact cnt_le N t h0
    clear hs hk hb hn
    by_cases h1 : 1 < n
    · have j1 : (1 : Int) < (n : Int) := by omega
      have H1 := Lib.hid h1
      go_wp2_with fail
      refine (above_any wr _ _ HS.out (by rw [← HN.out]; omega)).mono ?_
      rintro e w3 ⟨v3, rfl, o3, b3⟩
      have hs3 := Lib.hid o3.hs
      have B3 := Lib.hid (HB.out.tr b3)
      have K3 := Lib.hid (HK.out.fresh b3)
      clear o3 b3
      obtain ⟨a4, c4, rfl⟩ := hs3.out.slice
      have hl4 := Lib.hid (up_length knotB (upN knotB t ls))
      rw [← HN.out] at hl4
      clear h1
      go_wp2
      go_roundw
      case rel => exact ⟨t + 1, hs3.out, K3.out, B3.out⟩
      case measure => simp only [sliceLen]; have := hl4.out; have := H1.out; omega
    · have j1 : ¬ ((1 : Int) < (n : Int)) := by omega
      by_cases h0 : n = 0
      · have hN0 : N = 0 := by
          have h2 := HN.out
          rw [upN_length, HLS.out.1] at h2
          rcases Nat.eq_zero_or_pos N with h3 | h3
          · exact h3
          · have := cnt_pos N t h3; omega
        have hZ' := Lib.hid (HZ0.out hN0)
        subst h0
        clear hN0 h1
        go_wp2_with fail
        refine (top_any wr 0 (.slice none 0 0) [] (by omega) (Rd.nil _ _) (by simp)).mono ?_
        rintro e w4 ⟨rfl, b4⟩
        rw [← hZ'.out]
        have B4 := Lib.hid (HB.out.tr b4)
        have K4 := Lib.hid (HK.out.fresh b4)
        clear b4
        go_wp2_with (with_reducible refine stopStore 24 ?_)
        refine Stop.go ?_
        refine wpList_store_var rfl 24 (.tmp 2) (.tmp 14) rfl (w.heap.size) _ rfl _ (bvs Z) rfl K4.out (by simp [hZl.out]) (bvs_one _) (by rw [bvs_length, hZl.out]; exact infoHash) ?_
        intro wf kf of
        have BF : Hid (Below w.heap.size w wf) := Below.only B4.out of (by omega)
        have KF := Lib.hid kf
        clear kf of
        go_wp2
        exact bodyPost_ret (results_cell1 rfl _ _ (w.heap.size) _ _ _ _ rfl KF.out Try.underlying24 rfl (by simp [hZl.out, infoHash])) rfl ⟨rfl, BF.out⟩
      · have hn1 : n = 1 := by omega
        have hNp : 0 < N := by omega
        obtain ⟨x, hx, hZx⟩ := HZ1.out t (by rw [← HN.out]; omega) hNp
        rw [hx] at HS
        have hZ' := Lib.hid hZx
        have hx32 := Lib.hid (HS.out.1.get (i := 0) rfl)
        subst hn1
        obtain ⟨ad, c4, he⟩ := HS.out.isSome (n := 1) rfl (by decide)
        simp only [Value.slice.injEq, true_and] at he
        obtain ⟨rfl, rfl⟩ := he
        have hr : Hid (Rd wr 1 (.slice (some ad) 32 32) x.length (bvs x)) := Lib.hid (by have := HS.out.rd (i := 0) rfl; rw [hx32.out]; simpa [Addr.add] using this)
        have j5 : ¬ ((N : Int) = 0) := by omega
        clear hx hZx hNp h0 h1
        go_wp2_with fail
        refine (top_any wr N _ x (by have := HL.out; omega) hr.out (by rw [hx32.out]; decide)).mono ?_
        rintro e w4 ⟨rfl, b4⟩
        rw [← hZ'.out]
        have B4 := Lib.hid (HB.out.tr b4)
        have K4 := Lib.hid (HK.out.fresh b4)
        clear b4
        go_wp2_with (with_reducible refine stopStore 24 ?_)
        refine Stop.go ?_
        refine wpList_store_var rfl 24 (.tmp 2) (.tmp 20) rfl (w.heap.size) _ rfl _ (bvs Z) rfl K4.out (by simp [hZl.out]) (bvs_one _) (by rw [bvs_length, hZl.out]; exact infoHash) ?_
        intro wf kf of
        have BF : Hid (Below w.heap.size w wf) := Below.only B4.out of (by omega)
        have KF := Lib.hid kf
        clear kf of
        go_wp2
        exact bodyPost_ret (results_cell1 rfl _ _ (w.heap.size) _ _ _ _ rfl KF.out Try.underlying24 rfl (by simp [hZl.out, infoHash])) rfl ⟨rfl, BF.out⟩

end Go.Proofs.Ytkbahhnjoidhcaa
