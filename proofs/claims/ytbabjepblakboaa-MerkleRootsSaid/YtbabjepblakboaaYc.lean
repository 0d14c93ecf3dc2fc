/- Merkle: root, size: the walks. -/
import Derived.Test.YtbabjepblakboaaYb
namespace Go.Proofs.Ytbabjepblakboaa
set_option linter.unusedVariables false
set_option linter.unusedSimpArgs false
open Go.RowKit Go.Lib

/-- Is there such a place? -/
def okPl (n c : Int) : Bool := decide (0 ≤ n) && decide (n < c) && decide (c ≤ 1048576)

theorem nat_xor_one (p : Nat) : p ^^^ 1 = bes p := by
  have h1 : (p ^^^ 1) / 2 = p / 2 := by rw [Nat.xor_div_two]; simp
  have h2 : (p ^^^ 1) % 2 = (p + 1) % 2 := by
    have h3 := Nat.xor_mod_two_pow (a := p) (b := 1) (n := 1)
    rw [show 2 ^ 1 = 2 from rfl] at h3
    rw [h3]
    rcases Nat.mod_two_eq_zero_or_one p with h | h
    · rw [h, Nat.add_mod, h]; rfl
    · rw [h, Nat.add_mod, h]; rfl
  unfold bes
  split <;> omega

theorem bits_xor1 (p : Nat) (hp : p < 4611686018427387904) : bits .xor .i64 (p : Int) 1 = ((bes p : Nat) : Int) := by
  have h1 : (BitVec.ofInt 64 (p : Int)).toNat = p := by
    rw [BitVec.ofInt_natCast, BitVec.toNat_ofNat]; exact Nat.mod_eq_of_lt (by omega)
  show IntKind.i64.wrap ((BitVec.ofInt 64 (p : Int) ^^^ BitVec.ofInt 64 (1 : Int)).toNat : Int) = _
  have hb : bes p < 4611686018427387905 := by unfold bes; split <;> omega
  rw [BitVec.toNat_xor, h1, show (BitVec.ofInt 64 (1 : Int)).toNat = 1 from rfl, nat_xor_one, IntKind.wrap_i64]
  omega

theorem bits_and1 (p : Nat) (hp : p < 4611686018427387904) : bits .and .i64 (p : Int) 1 = ((p % 2 : Nat) : Int) := by
  have h1 : (BitVec.ofInt 64 (p : Int)).toNat = p := by
    rw [BitVec.ofInt_natCast, BitVec.toNat_ofNat]; exact Nat.mod_eq_of_lt (by omega)
  show IntKind.i64.wrap ((BitVec.ofInt 64 (p : Int) &&& BitVec.ofInt 64 (1 : Int)).toNat : Int) = _
  rw [BitVec.toNat_and, h1, show (BitVec.ofInt 64 (1 : Int)).toNat = 1 from rfl, Nat.and_one_is_mod, IntKind.wrap_i64]
  omega

theorem tdiv2 (p : Nat) : (p : Int).tdiv 2 = ((p / 2 : Nat) : Int) := by rw [Int.tdiv_eq_ediv_of_nonneg (by omega)]; omega

theorem cnt_le (c t : Nat) (h : 1 ≤ c) : cnt c t ≤ c := by
  induction t with
  | zero => exact Nat.le_refl _
  | succ t ih => simp only [cnt]; omega

theorem accS_le (n c t : Nat) : accS n c t ≤ t := by
  induction t with
  | zero => exact Nat.le_refl _
  | succ t ih => simp only [accS]; split <;> omega

theorem div_step (n t : Nat) : n / 2 ^ (t + 1) = n / 2 ^ t / 2 := by rw [Nat.pow_succ, Nat.div_div_eq_div_mul]

theorem cnt_many (c t : Nat) (h : c ≤ 1048576) (h0 : 1 ≤ c) (h1 : 1 < cnt c t) : t < 20 := by
  rcases Nat.lt_or_ge t 20 with h2 | h2
  · exact h2
  · exfalso
    have h3 := cnt_mono c (2 ^ 20) 20 (by omega)
    rw [cnt_pow 20 20 (Nat.le_refl _)] at h3
    obtain ⟨e, rfl⟩ : ∃ e, t = 20 + e := ⟨t - 20, by omega⟩
    have : ∀ e, cnt c (20 + e) ≤ 1 := by
      intro e
      induction e with
      | zero => simpa using h3
      | succ e ih => show (cnt c (20 + e) + 1) / 2 ≤ 1; omega
    have := this e
    omega

set_option maxRecDepth 100000 in
set_option maxHeartbeats 1000000 in
theorem msize_ok (w : World) (n c : Nat) (hn : n < c) (hc : c ≤ 1048576) :
    Calls Try.prog 48 #[.int .i64 (n : Int), .int .i64 (c : Int)] w fun e w' => e = .returned (.tuple #[.int .i64 (sizeM 20 n c : Int), .int .i64 0]) ∧ w' = w := by
  have i1 : ¬ ((n : Int) < 0) := by omega
  have i2 : ¬ ((c : Int) ≤ (n : Int)) := by omega
  have i3 : ¬ ((1048576 : Int) < (c : Int)) := by omega
  have HN := Lib.hid hn
  have HC := Lib.hid hc
  clear hn hc
  go_enter Try.func48, Try.ntmps48
  go_wp2
  go_loopw [0, 1, 6] (fun v0 v1 v6 wr => wr = w ∧ ∃ t p q s : Nat, p = n / 2 ^ t ∧ q = cnt c t ∧ s = accS n c t ∧ v0 = .int .i64 (p : Int) ∧ v1 = .int .i64 (q : Int) ∧ v6 = .int .i64 (s : Int))
    (fun _ v _ _ => (intOf v).toNat)
  case atStart => exact ⟨rfl, 0, n, c, 0, by simp, rfl, rfl, rfl, rfl, rfl⟩
  case round =>
    obtain ⟨rfl, t, p, q, s, hp, hq, hs, rfl, rfl, rfl⟩ := hrel
    have hpq : p < q := by rw [hp, hq]; exact cnt_div n c t HN.out
    have hqc : q ≤ c := by rw [hq]; exact cnt_le c t (by have := HN.out; omega)
    have HP := Lib.hid hp
    have HQ := Lib.hid hq
    have HS := Lib.hid hs
    have HPQ := Lib.hid (And.intro hpq (Nat.le_trans hqc HC.out))
    by_cases h1 : 1 < q
    · have j1 : (1 : Int) < (q : Int) := by omega
      have ht : t < 20 := cnt_many c t HC.out (by have := HN.out; omega) (by rw [← hq]; exact h1)
      have hsl : s ≤ 20 := by have := accS_le n c t; omega
      have jx := bits_xor1 p (by have := HPQ.out; omega)
      obtain ⟨b, hb⟩ : ∃ b, b = bes p := ⟨_, rfl⟩
      rw [← hb] at jx
      have jp := tdiv2 p
      have jq : ((q : Int) + 1).tdiv 2 = (((q + 1) / 2 : Nat) : Int) := by have := tdiv2 (q + 1); rw [← this]; rfl
      have HB := Lib.hid hb
      have bp : (p : Int) ≤ 1048576 := by have := HPQ.out; omega
      have bq : (q : Int) ≤ 1048576 := by have := HPQ.out; omega
      have bs : (s : Int) ≤ 20 := by omega
      have HSL := Lib.hid hsl
      have H1 := Lib.hid h1
      clear hp hq hs hpq hqc hb ht hsl h1
      by_cases h2 : b < q
      · have j2 : (b : Int) < (q : Int) := by omega
        have H2 := Lib.hid h2
        clear h2
        go_wp2
        go_roundw
        case rel =>
          refine ⟨trivial, t + 1, p / 2, (q + 1) / 2, s + 1, ?_, ?_, ?_, by go_num, by go_num, by go_num⟩
          · rw [div_step, ← HP.out]
          · rw [cnt, ← HQ.out]
          · rw [accS, ← HP.out, ← HQ.out, ← HB.out, if_pos H2.out, HS.out]
        case measure => simp only [intOf]; have := H1.out; omega
      · have j2 : ¬ ((b : Int) < (q : Int)) := by omega
        have H2 := Lib.hid h2
        clear h2
        go_wp2
        go_roundw
        case rel =>
          refine ⟨trivial, t + 1, p / 2, (q + 1) / 2, s, ?_, ?_, ?_, by go_num, by go_num, rfl⟩
          · rw [div_step, ← HP.out]
          · rw [cnt, ← HQ.out]
          · rw [accS, ← HP.out, ← HQ.out, ← HB.out, if_neg H2.out, HS.out]; rfl
        case measure => simp only [intOf]; have := H1.out; omega
    · have j1 : ¬ ((1 : Int) < (q : Int)) := by omega
      have he : s = sizeM 20 n c := by rw [hs]; exact accS_end t 20 n c HN.out HC.out (by rw [← hq]; omega)
      have HE := Lib.hid he
      clear hp hq hs hpq hqc he
      go_wp2
      go_ret2
      exact ⟨by rw [HE.out]; rfl, rfl⟩
set_option maxRecDepth 100000 in
theorem msize_no (w : World) (n c : Int) (h : n < 0 ∨ c ≤ n ∨ 1048576 < c) :
    Calls Try.prog 48 #[.int .i64 n, .int .i64 c] w fun e w' => e = .returned (.tuple #[.int .i64 0, .int .i64 2]) ∧ w' = w := by
  by_cases h1 : n < 0
  · clear h
    go_enter Try.func48, Try.ntmps48
    go_wp2
    go_ret2
    exact ⟨rfl, rfl⟩
  by_cases h2 : c ≤ n
  · clear h
    go_enter Try.func48, Try.ntmps48
    go_wp2
    go_ret2
    exact ⟨rfl, rfl⟩
  · have h3 : 1048576 < c := by omega
    clear h
    go_enter Try.func48, Try.ntmps48
    go_wp2
    go_ret2
    exact ⟨rfl, rfl⟩

theorem msize_any (w : World) (n c : Int) :
    Calls Try.prog 48 #[.int .i64 n, .int .i64 c] w fun e w' => e = .returned (.tuple #[.int .i64 (if okPl n c then (sizeM 20 n.toNat c.toNat : Int) else 0), .int .i64 (if okPl n c then 0 else 2)]) ∧ w' = w := by
  by_cases h : okPl n c = true
  · rw [if_pos h, if_pos h]
    simp only [okPl, Bool.and_eq_true, decide_eq_true_eq] at h
    obtain ⟨a, rfl⟩ := Int.eq_ofNat_of_zero_le h.1.1
    obtain ⟨b, rfl⟩ := Int.eq_ofNat_of_zero_le (show 0 ≤ c by omega)
    simp only [Int.toNat_natCast]
    exact msize_ok w a b (by omega) (by omega)
  · rw [if_neg h, if_neg h]
    simp only [okPl, Bool.and_eq_true, decide_eq_true_eq] at h
    exact msize_no w n c (by omega)

/-- The root of hashes. -/
def rootB (l : List Bs) : Bs := topB l.length (if l = [] then [] else leftM knotB [] 20 (l.map leafB))

theorem leaves_h32 (l : List Bs) : H32 (l.map leafB) := by
  intro x hx
  obtain ⟨y, _, rfl⟩ := List.mem_map.1 hx
  exact leafB_length y

theorem upN_h32 {l : List Bs} (h : H32 l) (t : Nat) : H32 (upN knotB t l) := by
  induction t with
  | zero => exact h
  | succ t ih => exact up_h32 ih

theorem Hs.under {w w' : World} {v : Value} {l : List Bs} (h : Hs w v l) (hb : Below w.heap.size w w') : Hs w' v l := h.fresh hb

/-- A pointer's array, sliced whole: 32 bytes. -/
theorem Hs.rd {w : World} {ad : Addr} {n c : Nat} {l : List Bs} (h : Hs w (.slice (some ad) n c) l) {i : Nat} {x : Bs} (hi : l[i]? = some x) : Rd w 1 (.slice (some (ad.add (i * 32))) 32 32) 32 (bvs x) :=
  ⟨by rw [bvs_length, h.1.get hi], .inr ⟨_, _, rfl, Nat.le_refl _, by decide, h.elem' hi⟩⟩

set_option maxRecDepth 100000 in
set_option maxHeartbeats 1000000 in
theorem mroot_any (w : World) (v : Value) (l : List Bs) (h : Hs w v l) (hl : l.length ≤ 1048576) :
    Calls Try.prog 49 #[v] w fun e w' => e = .returned (.agg (bvs (rootB l)).toArray) ∧ Below w.heap.size w w' := by
  obtain ⟨a0, c0, rfl⟩ := h.slice
  obtain ⟨Z, hZ⟩ : ∃ Z, Z = rootB l := ⟨_, rfl⟩
  have hZl : Hid (Z.length = 32) := Lib.hid (by rw [hZ]; exact topB_length _ _)
  rw [← hZ]
  obtain ⟨ls, hls⟩ : ∃ ls, ls = l.map leafB := ⟨_, rfl⟩
  have CL := fun w0 h0 => leaves_any w0 (.slice a0 l.length c0) l h0 hl
  rw [← hls] at CL
  obtain ⟨N, hN⟩ : ∃ N, N = l.length := ⟨_, rfl⟩
  rw [← hN] at h hl CL ⊢
  have lsl : ls.length = N := by rw [hls, hN, List.length_map]
  have ls32 : H32 ls := by rw [hls]; exact leaves_h32 l
  have hz0 : N = 0 → Z = topB 0 [] := by
    intro h0
    have : l = [] := List.eq_nil_of_length_eq_zero (by omega)
    rw [hZ, this]; rfl
  have hz1 : ∀ t, (upN knotB t ls).length ≤ 1 → 0 < N → ∃ x, upN knotB t ls = [x] ∧ Z = topB N x := by
    intro t h1 h0
    refine ⟨_, upN_end knotB [] t 20 ls (by omega) (by omega) h1, ?_⟩
    rw [hZ, rootB, if_neg (by intro e; rw [e] at hN; simp at hN; omega), ← hls, hN]
  have H := Lib.hid h
  have HLS := Lib.hid (And.intro lsl ls32)
  have HZ0 := Lib.hid hz0
  have HZ1 := Lib.hid hz1
  replace CL := Lib.hid CL
  have HL := Lib.hid hl
  have bN : (N : Int) ≤ 1048576 := by omega
  clear h hls lsl ls32 hz0 hz1 hZ hN hl
  go_enter Try.func49, Try.ntmps49
  go_wp2_with fail
  obtain ⟨w1, h1, k1, b1, s1⟩ := alloc_cb w 24 (bvs (List.replicate 32 0))
  change Calls _ _ _ (w.alloc (.cells (bvs (List.replicate 32 0)).toArray 24)) _
  rw [← h1]
  refine (CL.out w1 (H.out.fresh b1)).mono ?_
  rintro e w2 ⟨v2, rfl, o2, b2⟩
  have hs2 := Lib.hid o2.hs
  have B2 := Lib.hid (b1.tr b2)
  have K2 := Lib.hid (k1.fresh b2)
  clear o2 b1 b2 k1 s1 h1
  obtain ⟨a2, c2, rfl⟩ := hs2.out.slice
  go_wp2
  go_loopw [3] (fun v3 wr => ∃ t, Hs wr v3 (upN knotB t ls) ∧ CB wr 24 w.heap.size (bvs (List.replicate 32 0)) ∧ Below w.heap.size w wr)
    (fun v _ => sliceLen v)
  case atStart => exact ⟨0, hs2.out, K2.out, B2.out⟩
  case round =>
    obtain ⟨t, hs, hk, hb⟩ := hrel
    obtain ⟨n, hn⟩ : ∃ n, n = (upN knotB t ls).length := ⟨_, rfl⟩
    obtain ⟨a3, c3, rfl⟩ := hs.slice' hn.symm
    have HS := Lib.hid hs
    have HK := Lib.hid hk
    have HB := Lib.hid hb
    have HN := Lib.hid hn
    have hnN : n ≤ N := by
      have := HLS.out.1
      rw [hn, upN_length, this]
      rcases Nat.eq_zero_or_pos N with h0 | h0
      · subst h0
        have : cnt 0 t = 0 := by clear hn hs HS HN; induction t with
          | zero => rfl
          | succ t ih => rw [cnt, ih]
        omega
      · exact cnt_le N t h0
    clear hs hk hb hn
    by_cases h1 : 1 < n
    · have j1 : (1 : Int) < (n : Int) := by omega
      have H1 := Lib.hid h1
      go_wp2_with fail
      refine (above_any wr _ _ HS.out (by rw [← HN.out]; omega)).mono ?_
      rintro e w3 ⟨v3, rfl, o3, b3⟩
      have hs3 := Lib.hid o3.hs
      have B3 := Lib.hid (HB.out.tr b3)
      have K3 := Lib.hid (HK.out.fresh b3)
      clear o3 b3
      obtain ⟨a4, c4, rfl⟩ := hs3.out.slice
      have hl4 := Lib.hid (up_length knotB (upN knotB t ls))
      rw [← HN.out] at hl4
      clear h1
      go_wp2
      go_roundw
      case rel => exact ⟨t + 1, hs3.out, K3.out, B3.out⟩
      case measure => simp only [sliceLen]; have := hl4.out; have := H1.out; omega
    · have j1 : ¬ ((1 : Int) < (n : Int)) := by omega
      by_cases h0 : n = 0
      · have hN0 : N = 0 := by
          have h2 := HN.out
          rw [upN_length, HLS.out.1] at h2
          rcases Nat.eq_zero_or_pos N with h3 | h3
          · exact h3
          · have := cnt_pos N t h3; omega
        have hZ' := Lib.hid (HZ0.out hN0)
        subst h0
        clear hN0 h1
        go_wp2_with fail
        refine (top_any wr 0 (.slice none 0 0) [] (by omega) (Rd.nil _ _) (by simp)).mono ?_
        rintro e w4 ⟨rfl, b4⟩
        rw [← hZ'.out]
        have B4 := Lib.hid (HB.out.tr b4)
        have K4 := Lib.hid (HK.out.fresh b4)
        clear b4
        go_wp2_with (with_reducible refine stopStore 24 ?_)
        refine Stop.go ?_
        refine wpList_store_var rfl 24 (.tmp 2) (.tmp 14) rfl (w.heap.size) _ rfl _ (bvs Z) rfl K4.out (by simp [hZl.out]) (bvs_one _) (by rw [bvs_length, hZl.out]; exact infoHash) ?_
        intro wf kf of
        have BF : Hid (Below w.heap.size w wf) := Below.only B4.out of (by omega)
        have KF := Lib.hid kf
        clear kf of
        go_wp2
        exact bodyPost_ret (results_cell1 rfl _ _ (w.heap.size) _ _ _ _ rfl KF.out Try.underlying24 rfl (by simp [hZl.out, infoHash])) rfl ⟨rfl, BF.out⟩
      · have hn1 : n = 1 := by omega
        have hNp : 0 < N := by omega
        obtain ⟨x, hx, hZx⟩ := HZ1.out t (by rw [← HN.out]; omega) hNp
        rw [hx] at HS
        have hZ' := Lib.hid hZx
        have hx32 := Lib.hid (HS.out.1.get (i := 0) rfl)
        subst hn1
        obtain ⟨ad, c4, he⟩ := HS.out.isSome (n := 1) rfl (by decide)
        simp only [Value.slice.injEq, true_and] at he
        obtain ⟨rfl, rfl⟩ := he
        have hr : Hid (Rd wr 1 (.slice (some ad) 32 32) x.length (bvs x)) := Lib.hid (by have := HS.out.rd (i := 0) rfl; rw [hx32.out]; simpa [Addr.add] using this)
        have j5 : ¬ ((N : Int) = 0) := by omega
        clear hx hZx hNp h0 h1
        go_wp2_with fail
        refine (top_any wr N _ x (by have := HL.out; omega) hr.out (by rw [hx32.out]; decide)).mono ?_
        rintro e w4 ⟨rfl, b4⟩
        rw [← hZ'.out]
        have B4 := Lib.hid (HB.out.tr b4)
        have K4 := Lib.hid (HK.out.fresh b4)
        clear b4
        go_wp2_with (with_reducible refine stopStore 24 ?_)
        refine Stop.go ?_
        refine wpList_store_var rfl 24 (.tmp 2) (.tmp 20) rfl (w.heap.size) _ rfl _ (bvs Z) rfl K4.out (by simp [hZl.out]) (bvs_one _) (by rw [bvs_length, hZl.out]; exact infoHash) ?_
        intro wf kf of
        have BF : Hid (Below w.heap.size w wf) := Below.only B4.out of (by omega)
        have KF := Lib.hid kf
        clear kf of
        go_wp2
        exact bodyPost_ret (results_cell1 rfl _ _ (w.heap.size) _ _ _ _ rfl KF.out Try.underlying24 rfl (by simp [hZl.out, infoHash])) rfl ⟨rfl, BF.out⟩

end Go.Proofs.Ytbabjepblakboaa
