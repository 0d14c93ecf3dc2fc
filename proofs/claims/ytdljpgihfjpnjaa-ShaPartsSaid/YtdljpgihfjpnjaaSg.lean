/- ShaParts: the law. -/
import Derived.Test.YtdljpgihfjpnjaaSf
import Derived.Test.YtdljpgihfjpnjaaSr
namespace Go.Proofs.Ytdljpgihfjpnjaa
set_option linter.unusedVariables false
set_option linter.unusedSimpArgs false
open Go.RowKit Go.Lib

def PS2 (t u : TypeId) (N : Nat) (s : St) (l : List UInt8) (w : World) : Prop := CB w t N (wds s.l) ∧ CB w u (N + 1) (bvs l)

set_option maxRecDepth 100000 in
set_option maxHeartbeats 800000 in
theorem parts_neg (w : World) (i : Int) (s : St) (l : List UInt8) (hl : l.length = 64) (h0 : i < 0) :
    Calls Try.prog 10 #[.int .i64 i, .agg (wds s.l).toArray, .agg (bvs l).toArray] w fun e w' => e = .returned (.bool true) ∧ Below w.heap.size w w' := by
  have CA := fun w0 => startI_any w0 i
  have CB' := fun w0 => constI_any w0 i
  rw [if_neg (by omega)] at CA CB'
  obtain ⟨xa, hxa⟩ : ∃ x : W32, x = 0 := ⟨_, rfl⟩
  obtain ⟨xb, hxb⟩ : ∃ x : W32, x = 0 := ⟨_, rfl⟩
  have hxa' : xa = (0 : W32) := hxa
  rw [show (wd 0 : Value) = wd xa by rw [hxa]] at CA
  rw [show (wd 0 : Value) = wd xb by rw [hxb]] at CB'
  obtain ⟨XA, hXA⟩ : ∃ n, n = xa.toNat := ⟨_, rfl⟩
  obtain ⟨XB, hXB⟩ : ∃ n, n = xb.toNat := ⟨_, rfl⟩
  unfold wd at CA CB'
  rw [← hXA] at CA
  rw [← hXB] at CB'
  have C1 := fun w0 => rstarts_any w0
  have C2 := fun w0 => rconsts_any w0
  have C3 := fun w0 => spress_any w0 s l hl
  have C4 := fun w0 => rpress_any w0 s l hl
  have C5 := fun w0 => sknown_any w0
  obtain ⟨⟨ra, rb, rc, rd, re, rf, rg, rh⟩, hres⟩ : ∃ r, r = pressS KS s l := ⟨_, rfl⟩
  rw [← hres] at C3 C4
  have hst : ∀ (j : Nat), j < 8 → (wds S0.l)[j]? = some (wd (S0.l.getD j 0)) := fun j hj => wds_get _ _ hj
  have hkt : ∀ (j : Nat), j < 64 → (wds KS)[j]? = some (wd (KS.getD j 0)) := fun j hj => wds_get _ _ hj
  obtain ⟨SL, hSL⟩ : ∃ x, x = wds S0.l := ⟨_, rfl⟩
  obtain ⟨KL, hKL⟩ : ∃ x, x = wds KS := ⟨_, rfl⟩
  have hSLl : SL.length = 8 := by rw [hSL]; rfl
  have hKLl : KL.length = 64 := by rw [hKL]; rfl
  have hS1 : ∀ u ∈ SL, u.oneCell' = true := by rw [hSL]; exact wds_one _
  have hK1 : ∀ u ∈ KL, u.oneCell' = true := by rw [hKL]; exact wds_one _
  rw [← hSL] at C1 hst
  rw [← hKL] at C2 hkt
  have g0 : ¬ (0 ≤ i) := by omega
  have hza : XA = 0 := by rw [hXA, hxa]; rfl
  have hzb : XB = 0 := by rw [hXB, hxb]; rfl
  subst hza hzb
  clear hxa hxb hxa'
  have HCA := Lib.hid CA
  have HCB := Lib.hid CB'
  have HC1 := Lib.hid C1
  have HC2 := Lib.hid C2
  have HC3 := Lib.hid C3
  have HC4 := Lib.hid C4
  have HC5 := Lib.hid C5
  have HSL := Lib.hid (And.intro hSLl (And.intro hKLl (And.intro hS1 hK1)))
  have HL := Lib.hid hl
  clear CA CB' C1 C2 C3 C4 C5 hres hSL hKL hSLl hKLl hS1 hK1 hl hst hkt hXA hXB
  go_enter Try.func10, Try.ntmps10
  go_wp2_with fail
  obtain ⟨wa, ha, hak, hab, has⟩ := alloc_cb w 78 (wds s.l)
  obtain ⟨wb, hb, hbs, hbb, hbz⟩ := alloc_cb wa 79 (bvs l)
  change Calls _ _ _ ((w.alloc (.cells (wds s.l).toArray 78)).alloc (.cells (bvs l).toArray 79)) _
  rw [← ha, ← hb]
  rw [has] at hbz hbs
  have h1 := hak.fresh hbb
  have hBb : Below w.heap.size w wb := hab.trans (hbb.mono hab.size)
  obtain ⟨N, hN⟩ : ∃ N, N = w.heap.size := ⟨_, rfl⟩
  rw [← hN] at h1 hbs hbz hBb ⊢
  clear ha hb hak hab has hbb
  refine (HC1.out wb).mono ?_
  rintro e w1 ⟨rfl, hb1⟩
  have hP1 : PS2 78 79 N s l w1 := ⟨h1.fresh hb1, hbs.fresh hb1⟩
  have hB1 : Below N w w1 := hBb.trans (hb1.mono (by omega))
  have hz1 : N + 2 ≤ w1.heap.size := by have := hb1.size; omega
  have HP1 := Lib.hid hP1
  have HB1 := Lib.hid hB1
  have HN := Lib.hid hN
  clear h1 hbs hbz hBb hb1 hP1 hB1 hN
  go_wp2_with fail
  refine (HC2.out w1).mono ?_
  rintro e w2 ⟨rfl, hb2⟩
  have hP2 : PS2 78 79 N s l w2 := ⟨CB.fresh HP1.out.1 hb2, CB.fresh HP1.out.2 hb2⟩
  have hB2 : Below N w w2 := HB1.out.trans (hb2.mono (by omega))
  have hz2 : N + 2 ≤ w2.heap.size := by have := hb2.size; omega
  have HP2 := Lib.hid hP2
  have HB2 := Lib.hid hB2
  clear hb2 hP2 hB2 hz1 HP1 HB1
  go_wp2_with (with_reducible refine stopStore 78 ?_)
  refine Stop.go ?_
  obtain ⟨w3, hw3, h3k, h3b, h3z⟩ := alloc_cb w2 78 (wds (List.replicate 8 0))
  obtain ⟨w4, hw4, h4k, h4b, h4z⟩ := alloc_cb w3 81 (wds (List.replicate 64 0))
  change wpList _ _ _ _ _ ((w2.alloc (.cells (wds (List.replicate 8 0)).toArray 78)).alloc (.cells (wds (List.replicate 64 0)).toArray 81))
  rw [← hw3, ← hw4]
  clear hw3 hw4
  obtain ⟨G, hG⟩ : ∃ G, G = w2.heap.size := ⟨_, rfl⟩
  rw [h3z] at h4k
  have h3k' := h3k.fresh h4b
  have hb4 : Below G w2 w4 := by rw [hG]; exact h3b.trans (h4b.mono (by omega))
  rw [← hG] at h3k' h4k hz2 ⊢
  have HG := Lib.hid hG
  clear hG h3k h3b h3z h4b h4z
  refine wpList_store_var rfl 78 (.tmp 7) (.tmp 11) rfl G _ rfl _ SL rfl h3k' (by simp [HSL.out.1]) HSL.out.2.2.1 (by rw [HSL.out.1]; exact infoW8) ?_
  intro w5 hb5 ho5
  have h5k : CB w5 81 (G + 1) (wds (List.replicate 64 0)) := h4k.only ho5 (by omega)
  have h5s : CB w5 78 G SL := hb5
  have h5b : Below G w2 w5 := Below.only hb4 ho5 (Nat.le_refl _)
  clear hb5 ho5 h4k h3k' hb4
  go_wp2_with (with_reducible refine stopStore 81 ?_)
  refine Stop.go ?_
  refine wpList_store_var rfl 81 (.tmp 8) (.tmp 12) rfl (G + 1) _ rfl _ KL rfl h5k (by simp [HSL.out.2.1]) HSL.out.2.2.2 (by rw [HSL.out.2.1]; exact infoW64) ?_
  intro w6 hb6 ho6
  have h6s : CB w6 78 G SL := h5s.only ho6 (by omega)
  have h6k : CB w6 81 (G + 1) KL := hb6
  have h6b : Below G w2 w6 := Below.only h5b ho6 (by omega)
  have hS : PS2 78 79 N s l w6 := ⟨CB.below HP2.out.1 h6b (by omega), CB.below HP2.out.2 h6b (by omega)⟩
  have hB6 : Below N w w6 := HB2.out.trans (h6b.mono (by omega))
  have hz6 : N + 2 ≤ w6.heap.size := by have := h6b.size; have := HG.out; omega
  have HS6 := Lib.hid hS
  have HB6 := Lib.hid hB6
  have HZ6 := Lib.hid hz6
  clear hb6 ho6 h5k h5s h5b h6s h6k h6b hB6 hz6 hS HP2 HB2
  go_wp2_with fail
  have hS : PS2 78 79 N s l w6.drew := HS6.out
  refine pl_start 23 rfl (PS2 78 79 N s l) (by kernel_rfl) ?_
  refine pl_take (i := 0) 31 rfl rfl rfl (by kernel_rfl) (by kernel_rfl) (by kernel_rfl) (by simp [Act.put]) hS ?_
  apply Exists.intro
  refine And.intro (fun w' hS' => ?_) ?_
  · clear hS'
    go_wp2
    exact ⟨trivial, rfl⟩
  refine pl_take (i := 2) 33 rfl rfl rfl (by kernel_rfl) (by kernel_rfl) (by kernel_rfl) (by simp [Act.put]) hS ?_
  apply Exists.intro
  refine And.intro (fun w' hS' => ?_) ?_
  · clear hS'
    go_wp2
    exact ⟨trivial, rfl⟩
  refine pl_heavy (i := 1) rfl (by kernel_rfl) ?_
  go_wp2_with fail
  refine (HCA.out _).mono ?_
  rintro e w7 ⟨rfl, hb7⟩
  have hx7 : Below w6.heap.size w6 w7 := (Below.refl _ w6).drew.trans hb7
  have hS7 : PS2 78 79 N s l w7 := ⟨CB.fresh HS6.out.1 hx7, CB.fresh HS6.out.2 hx7⟩
  have HB7 : Hid (Below N w w7) := Lib.hid (HB6.out.trans (hx7.mono (by have := HZ6.out; omega)))
  have HZ7 : Hid (N + 2 ≤ w7.heap.size) := Lib.hid (by have := hx7.size; have := HZ6.out; omega)
  clear hb7 hx7 hS
  have HSS7 := Lib.hid hS7
  clear hS7
  go_wp2
  have hS7 := HSS7.out
  refine And.intro hS7 ?_
  refine pl_take (i := 3) 34 rfl rfl rfl (by kernel_rfl) (by kernel_rfl) (by kernel_rfl) (by simp [Act.put]) hS7 ?_
  apply Exists.intro
  refine And.intro (fun w' hS' => ?_) ?_
  · clear hS'
    go_wp2
    exact ⟨trivial, rfl⟩
  refine pl_take (i := 4) 35 rfl rfl rfl (by kernel_rfl) (by kernel_rfl) (by kernel_rfl) (by simp [Act.put]) hS7 ?_
  apply Exists.intro
  refine And.intro (fun w' hS' => ?_) ?_
  · clear hS'
    go_wp2
    exact ⟨trivial, rfl⟩
  refine pl_take (i := 5) 36 rfl rfl rfl (by kernel_rfl) (by kernel_rfl) (by kernel_rfl) (by simp [Act.put]) hS7 ?_
  apply Exists.intro
  refine And.intro (fun w' hS' => ?_) ?_
  · clear hS'
    go_wp2
    exact ⟨trivial, rfl⟩
  refine pl_take (i := 7) 38 rfl rfl rfl (by kernel_rfl) (by kernel_rfl) (by kernel_rfl) (by simp [Act.put]) hS7 ?_
  apply Exists.intro
  refine And.intro (fun w' hS' => ?_) ?_
  · clear hS'
    go_wp2
    exact ⟨trivial, rfl⟩
  refine pl_heavy (i := 6) rfl (by kernel_rfl) ?_
  go_wp2_with fail
  refine (HCB.out _).mono ?_
  rintro e w8 ⟨rfl, hb8⟩
  have hS8 : PS2 78 79 N s l w8 := ⟨CB.fresh hS7.1 hb8, CB.fresh hS7.2 hb8⟩
  have HB8 : Hid (Below N w w8) := Lib.hid (HB7.out.trans (hb8.mono (by have := HZ7.out; omega)))
  have HZ8 : Hid (N + 2 ≤ w8.heap.size) := Lib.hid (by have := hb8.size; have := HZ7.out; omega)
  clear hb8 hS7
  have HSS8 := Lib.hid hS8
  clear hS8
  go_wp2
  have hS8 := HSS8.out
  refine And.intro hS8 ?_
  refine pl_take (i := 8) 39 rfl rfl rfl (by kernel_rfl) (by kernel_rfl) (by kernel_rfl) (by simp [Act.put]) hS8 ?_
  apply Exists.intro
  refine And.intro (fun w' hS' => ?_) ?_
  · clear hS'
    go_wp2
    exact ⟨trivial, rfl⟩
  refine pl_take (i := 9) 40 rfl rfl rfl (by kernel_rfl) (by kernel_rfl) (by kernel_rfl) (by simp [Act.put]) hS8 ?_
  apply Exists.intro
  refine And.intro (fun w' hS' => ?_) ?_
  · clear hS'
    go_wp2
    exact ⟨trivial, rfl⟩
  refine pl_take (i := 10) 41 rfl rfl rfl (by kernel_rfl) (by kernel_rfl) (by kernel_rfl) (by simp [Act.put]) hS8 ?_
  apply Exists.intro
  refine And.intro (fun w' hS' => ?_) ?_
  · clear hS'
    go_wp2
    exact ⟨trivial, rfl⟩
  refine pl_take (i := 11) 42 rfl rfl rfl (by kernel_rfl) (by kernel_rfl) (by kernel_rfl) (by simp [Act.put]) hS8 ?_
  apply Exists.intro
  refine And.intro (fun w' hS' => ?_) ?_
  · refine wpList_unguard' rfl ?_
    refine wpList_load_agg rfl 78 (.tmp 4) rfl ⟨N, 0, none⟩ rfl (wds s.l) _ (CB.at hS'.1).load Try.underlying78 rfl (by rw [wds_length]; exact infoW8) ?_
    go_wp2
    exact ⟨trivial, rfl⟩
  refine pl_take (i := 12) 43 rfl rfl rfl (by kernel_rfl) (by kernel_rfl) (by kernel_rfl) (by simp [Act.put]) hS8 ?_
  apply Exists.intro
  refine And.intro (fun w' hS' => ?_) ?_
  · refine wpList_unguard' rfl ?_
    refine wpList_load_agg rfl 79 (.tmp 5) rfl ⟨N + 1, 0, none⟩ rfl (bvs l) _ (CB.at hS'.2).load Try.underlying79 rfl (by rw [bvs_length, HL.out]; exact infoB64) ?_
    go_wp2
    exact ⟨trivial, rfl⟩
  refine pl_take (i := 14) 45 rfl rfl rfl (by kernel_rfl) (by kernel_rfl) (by kernel_rfl) (by simp [Act.put]) hS8 ?_
  apply Exists.intro
  refine And.intro (fun w' hS' => ?_) ?_
  · refine wpList_unguard' rfl ?_
    refine wpList_load_agg rfl 78 (.tmp 4) rfl ⟨N, 0, none⟩ rfl (wds s.l) _ (CB.at hS'.1).load Try.underlying78 rfl (by rw [wds_length]; exact infoW8) ?_
    go_wp2
    exact ⟨trivial, rfl⟩
  refine pl_take (i := 15) 46 rfl rfl rfl (by kernel_rfl) (by kernel_rfl) (by kernel_rfl) (by simp [Act.put]) hS8 ?_
  apply Exists.intro
  refine And.intro (fun w' hS' => ?_) ?_
  · refine wpList_unguard' rfl ?_
    refine wpList_load_agg rfl 79 (.tmp 5) rfl ⟨N + 1, 0, none⟩ rfl (bvs l) _ (CB.at hS'.2).load Try.underlying79 rfl (by rw [bvs_length, HL.out]; exact infoB64) ?_
    go_wp2
    exact ⟨trivial, rfl⟩
  refine pl_heavy (i := 13) rfl (by kernel_rfl) ?_
  go_wp2_with fail
  refine (HC3.out _).mono ?_
  rintro e w9 ⟨rfl, hb9⟩
  have hS9 : PS2 78 79 N s l w9 := ⟨CB.fresh hS8.1 hb9, CB.fresh hS8.2 hb9⟩
  have HB9 : Hid (Below N w w9) := Lib.hid (HB8.out.trans (hb9.mono (by have := HZ8.out; omega)))
  have HZ9 : Hid (N + 2 ≤ w9.heap.size) := Lib.hid (by have := hb9.size; have := HZ8.out; omega)
  clear hb9 hS8
  have HSS9 := Lib.hid hS9
  clear hS9
  go_wp2
  have hS9 := HSS9.out
  refine And.intro hS9 ?_
  refine pl_heavy (i := 16) rfl (by kernel_rfl) ?_
  go_wp2_with fail
  refine (HC4.out _).mono ?_
  rintro e w10 ⟨rfl, hb10⟩
  have hS10 : PS2 78 79 N s l w10 := ⟨CB.fresh hS9.1 hb10, CB.fresh hS9.2 hb10⟩
  have HB10 : Hid (Below N w w10) := Lib.hid (HB9.out.trans (hb10.mono (by have := HZ9.out; omega)))
  have HZ10 : Hid (N + 2 ≤ w10.heap.size) := Lib.hid (by have := hb10.size; have := HZ9.out; omega)
  clear hb10 hS9
  have HSS10 := Lib.hid hS10
  clear hS10
  go_wp2
  have hS10 := HSS10.out
  refine And.intro hS10 ?_
  refine pl_take (i := 17) 48 rfl rfl rfl (by kernel_rfl) (by kernel_rfl) (by kernel_rfl) (by simp [Act.put]) hS10 ?_
  apply Exists.intro
  refine And.intro (fun w' hS' => ?_) ?_
  · refine wpList_unguard' rfl ?_
    refine wpList_bin rfl .eql 78 78 (.tmp 44) (.tmp 47) rfl (.bool true) (eqGuard_agg _ _ _ _ _ _ _ (by kernel_rfl)) (words_eq_self w' _ _ _ _ _ _ _ _) ?_
    go_wp2
    exact ⟨trivial, rfl⟩
  refine pl_take (i := 18) 49 rfl rfl rfl (by kernel_rfl) (by kernel_rfl) (by kernel_rfl) (by simp [Act.put]) hS10 ?_
  apply Exists.intro
  refine And.intro (fun w' hS' => ?_) ?_
  · clear hS'
    go_wp2
    exact ⟨trivial, rfl⟩
  refine pl_take (i := 19) 50 rfl rfl rfl (by kernel_rfl) (by kernel_rfl) (by kernel_rfl) (by simp [Act.put]) hS10 ?_
  apply Exists.intro
  refine And.intro (fun w' hS' => ?_) ?_
  · clear hS'
    go_wp2
    exact ⟨trivial, rfl⟩
  refine pl_heavy (i := 20) rfl (by kernel_rfl) ?_
  go_wp2_with fail
  refine (HC5.out _).mono ?_
  rintro e w11 ⟨rfl, hb11⟩
  have hS11 : PS2 78 79 N s l w11 := ⟨CB.fresh hS10.1 hb11, CB.fresh hS10.2 hb11⟩
  have HB11 : Hid (Below N w w11) := Lib.hid (HB10.out.trans (hb11.mono (by have := HZ10.out; omega)))
  have HZ11 : Hid (N + 2 ≤ w11.heap.size) := Lib.hid (by have := hb11.size; have := HZ10.out; omega)
  clear hb11 hS10
  have HSS11 := Lib.hid hS11
  clear hS11
  go_wp2
  have hS11 := HSS11.out
  refine And.intro hS11 ?_
  refine pl_take (i := 21) 52 rfl rfl rfl (by kernel_rfl) (by kernel_rfl) (by kernel_rfl) (by simp [Act.put]) hS11 ?_
  apply Exists.intro
  refine And.intro (fun w' hS' => ?_) ?_
  · clear hS'
    go_wp2
    exact ⟨trivial, rfl⟩
  refine pl_take (i := 22) 6 rfl rfl rfl (by kernel_rfl) (by kernel_rfl) (by kernel_rfl) (by simp [Act.put]) hS11 ?_
  apply Exists.intro
  refine And.intro (fun w' hS' => ?_) ?_
  · clear hS'
    go_wp2
    exact ⟨trivial, rfl⟩
  refine pl_done (by kernel_rfl) ?_
  go_wp2
  go_ret
  refine ⟨rfl, ?_⟩
  rw [← HN.out]
  exact HB11.out

set_option maxRecDepth 100000 in
set_option maxHeartbeats 800000 in
theorem parts_big (w : World) (i : Int) (s : St) (l : List UInt8) (hl : l.length = 64) (h0 : 64 ≤ i) :
    Calls Try.prog 10 #[.int .i64 i, .agg (wds s.l).toArray, .agg (bvs l).toArray] w fun e w' => e = .returned (.bool true) ∧ Below w.heap.size w w' := by
  have CA := fun w0 => startI_any w0 i
  have CB' := fun w0 => constI_any w0 i
  rw [if_neg (by omega)] at CA CB'
  obtain ⟨xa, hxa⟩ : ∃ x : W32, x = 0 := ⟨_, rfl⟩
  obtain ⟨xb, hxb⟩ : ∃ x : W32, x = 0 := ⟨_, rfl⟩
  have hxa' : xa = (0 : W32) := hxa
  rw [show (wd 0 : Value) = wd xa by rw [hxa]] at CA
  rw [show (wd 0 : Value) = wd xb by rw [hxb]] at CB'
  obtain ⟨XA, hXA⟩ : ∃ n, n = xa.toNat := ⟨_, rfl⟩
  obtain ⟨XB, hXB⟩ : ∃ n, n = xb.toNat := ⟨_, rfl⟩
  unfold wd at CA CB'
  rw [← hXA] at CA
  rw [← hXB] at CB'
  have C1 := fun w0 => rstarts_any w0
  have C2 := fun w0 => rconsts_any w0
  have C3 := fun w0 => spress_any w0 s l hl
  have C4 := fun w0 => rpress_any w0 s l hl
  have C5 := fun w0 => sknown_any w0
  obtain ⟨⟨ra, rb, rc, rd, re, rf, rg, rh⟩, hres⟩ : ∃ r, r = pressS KS s l := ⟨_, rfl⟩
  rw [← hres] at C3 C4
  have hst : ∀ (j : Nat), j < 8 → (wds S0.l)[j]? = some (wd (S0.l.getD j 0)) := fun j hj => wds_get _ _ hj
  have hkt : ∀ (j : Nat), j < 64 → (wds KS)[j]? = some (wd (KS.getD j 0)) := fun j hj => wds_get _ _ hj
  obtain ⟨SL, hSL⟩ : ∃ x, x = wds S0.l := ⟨_, rfl⟩
  obtain ⟨KL, hKL⟩ : ∃ x, x = wds KS := ⟨_, rfl⟩
  have hSLl : SL.length = 8 := by rw [hSL]; rfl
  have hKLl : KL.length = 64 := by rw [hKL]; rfl
  have hS1 : ∀ u ∈ SL, u.oneCell' = true := by rw [hSL]; exact wds_one _
  have hK1 : ∀ u ∈ KL, u.oneCell' = true := by rw [hKL]; exact wds_one _
  rw [← hSL] at C1 hst
  rw [← hKL] at C2 hkt
  have g0 : 0 ≤ i := by omega
  have g1 : ¬ (i < 8) := by omega
  have g2 : ¬ (i < 64) := by omega
  have hza : XA = 0 := by rw [hXA, hxa]; rfl
  have hzb : XB = 0 := by rw [hXB, hxb]; rfl
  subst hza hzb
  clear hxa hxb hxa'
  have HCA := Lib.hid CA
  have HCB := Lib.hid CB'
  have HC1 := Lib.hid C1
  have HC2 := Lib.hid C2
  have HC3 := Lib.hid C3
  have HC4 := Lib.hid C4
  have HC5 := Lib.hid C5
  have HSL := Lib.hid (And.intro hSLl (And.intro hKLl (And.intro hS1 hK1)))
  have HL := Lib.hid hl
  clear CA CB' C1 C2 C3 C4 C5 hres hSL hKL hSLl hKLl hS1 hK1 hl hst hkt hXA hXB
  go_enter Try.func10, Try.ntmps10
  go_wp2_with fail
  obtain ⟨wa, ha, hak, hab, has⟩ := alloc_cb w 78 (wds s.l)
  obtain ⟨wb, hb, hbs, hbb, hbz⟩ := alloc_cb wa 79 (bvs l)
  change Calls _ _ _ ((w.alloc (.cells (wds s.l).toArray 78)).alloc (.cells (bvs l).toArray 79)) _
  rw [← ha, ← hb]
  rw [has] at hbz hbs
  have h1 := hak.fresh hbb
  have hBb : Below w.heap.size w wb := hab.trans (hbb.mono hab.size)
  obtain ⟨N, hN⟩ : ∃ N, N = w.heap.size := ⟨_, rfl⟩
  rw [← hN] at h1 hbs hbz hBb ⊢
  clear ha hb hak hab has hbb
  refine (HC1.out wb).mono ?_
  rintro e w1 ⟨rfl, hb1⟩
  have hP1 : PS2 78 79 N s l w1 := ⟨h1.fresh hb1, hbs.fresh hb1⟩
  have hB1 : Below N w w1 := hBb.trans (hb1.mono (by omega))
  have hz1 : N + 2 ≤ w1.heap.size := by have := hb1.size; omega
  have HP1 := Lib.hid hP1
  have HB1 := Lib.hid hB1
  have HN := Lib.hid hN
  clear h1 hbs hbz hBb hb1 hP1 hB1 hN
  go_wp2_with fail
  refine (HC2.out w1).mono ?_
  rintro e w2 ⟨rfl, hb2⟩
  have hP2 : PS2 78 79 N s l w2 := ⟨CB.fresh HP1.out.1 hb2, CB.fresh HP1.out.2 hb2⟩
  have hB2 : Below N w w2 := HB1.out.trans (hb2.mono (by omega))
  have hz2 : N + 2 ≤ w2.heap.size := by have := hb2.size; omega
  have HP2 := Lib.hid hP2
  have HB2 := Lib.hid hB2
  clear hb2 hP2 hB2 hz1 HP1 HB1
  go_wp2_with (with_reducible refine stopStore 78 ?_)
  refine Stop.go ?_
  obtain ⟨w3, hw3, h3k, h3b, h3z⟩ := alloc_cb w2 78 (wds (List.replicate 8 0))
  obtain ⟨w4, hw4, h4k, h4b, h4z⟩ := alloc_cb w3 81 (wds (List.replicate 64 0))
  change wpList _ _ _ _ _ ((w2.alloc (.cells (wds (List.replicate 8 0)).toArray 78)).alloc (.cells (wds (List.replicate 64 0)).toArray 81))
  rw [← hw3, ← hw4]
  clear hw3 hw4
  obtain ⟨G, hG⟩ : ∃ G, G = w2.heap.size := ⟨_, rfl⟩
  rw [h3z] at h4k
  have h3k' := h3k.fresh h4b
  have hb4 : Below G w2 w4 := by rw [hG]; exact h3b.trans (h4b.mono (by omega))
  rw [← hG] at h3k' h4k hz2 ⊢
  have HG := Lib.hid hG
  clear hG h3k h3b h3z h4b h4z
  refine wpList_store_var rfl 78 (.tmp 7) (.tmp 11) rfl G _ rfl _ SL rfl h3k' (by simp [HSL.out.1]) HSL.out.2.2.1 (by rw [HSL.out.1]; exact infoW8) ?_
  intro w5 hb5 ho5
  have h5k : CB w5 81 (G + 1) (wds (List.replicate 64 0)) := h4k.only ho5 (by omega)
  have h5s : CB w5 78 G SL := hb5
  have h5b : Below G w2 w5 := Below.only hb4 ho5 (Nat.le_refl _)
  clear hb5 ho5 h4k h3k' hb4
  go_wp2_with (with_reducible refine stopStore 81 ?_)
  refine Stop.go ?_
  refine wpList_store_var rfl 81 (.tmp 8) (.tmp 12) rfl (G + 1) _ rfl _ KL rfl h5k (by simp [HSL.out.2.1]) HSL.out.2.2.2 (by rw [HSL.out.2.1]; exact infoW64) ?_
  intro w6 hb6 ho6
  have h6s : CB w6 78 G SL := h5s.only ho6 (by omega)
  have h6k : CB w6 81 (G + 1) KL := hb6
  have h6b : Below G w2 w6 := Below.only h5b ho6 (by omega)
  have hS : PS2 78 79 N s l w6 := ⟨CB.below HP2.out.1 h6b (by omega), CB.below HP2.out.2 h6b (by omega)⟩
  have hB6 : Below N w w6 := HB2.out.trans (h6b.mono (by omega))
  have hz6 : N + 2 ≤ w6.heap.size := by have := h6b.size; have := HG.out; omega
  have HS6 := Lib.hid hS
  have HB6 := Lib.hid hB6
  have HZ6 := Lib.hid hz6
  clear hb6 ho6 h5k h5s h5b h6s h6k h6b hB6 hz6 hS HP2 HB2
  go_wp2_with fail
  have hS : PS2 78 79 N s l w6.drew := HS6.out
  refine pl_start 23 rfl (PS2 78 79 N s l) (by kernel_rfl) ?_
  refine pl_take (i := 0) 31 rfl rfl rfl (by kernel_rfl) (by kernel_rfl) (by kernel_rfl) (by simp [Act.put]) hS ?_
  apply Exists.intro
  refine And.intro (fun w' hS' => ?_) ?_
  · clear hS'
    go_wp2
    exact ⟨trivial, rfl⟩
  refine pl_take (i := 2) 33 rfl rfl rfl (by kernel_rfl) (by kernel_rfl) (by kernel_rfl) (by simp [Act.put]) hS ?_
  apply Exists.intro
  refine And.intro (fun w' hS' => ?_) ?_
  · clear hS'
    go_wp2
    exact ⟨trivial, rfl⟩
  refine pl_heavy (i := 1) rfl (by kernel_rfl) ?_
  go_wp2_with fail
  refine (HCA.out _).mono ?_
  rintro e w7 ⟨rfl, hb7⟩
  have hx7 : Below w6.heap.size w6 w7 := (Below.refl _ w6).drew.trans hb7
  have hS7 : PS2 78 79 N s l w7 := ⟨CB.fresh HS6.out.1 hx7, CB.fresh HS6.out.2 hx7⟩
  have HB7 : Hid (Below N w w7) := Lib.hid (HB6.out.trans (hx7.mono (by have := HZ6.out; omega)))
  have HZ7 : Hid (N + 2 ≤ w7.heap.size) := Lib.hid (by have := hx7.size; have := HZ6.out; omega)
  clear hb7 hx7 hS
  have HSS7 := Lib.hid hS7
  clear hS7
  go_wp2
  have hS7 := HSS7.out
  refine And.intro hS7 ?_
  refine pl_take (i := 3) 34 rfl rfl rfl (by kernel_rfl) (by kernel_rfl) (by kernel_rfl) (by simp [Act.put]) hS7 ?_
  apply Exists.intro
  refine And.intro (fun w' hS' => ?_) ?_
  · clear hS'
    go_wp2
    exact ⟨trivial, rfl⟩
  refine pl_take (i := 4) 35 rfl rfl rfl (by kernel_rfl) (by kernel_rfl) (by kernel_rfl) (by simp [Act.put]) hS7 ?_
  apply Exists.intro
  refine And.intro (fun w' hS' => ?_) ?_
  · clear hS'
    go_wp2
    exact ⟨trivial, rfl⟩
  refine pl_take (i := 5) 36 rfl rfl rfl (by kernel_rfl) (by kernel_rfl) (by kernel_rfl) (by simp [Act.put]) hS7 ?_
  apply Exists.intro
  refine And.intro (fun w' hS' => ?_) ?_
  · clear hS'
    go_wp2
    exact ⟨trivial, rfl⟩
  refine pl_take (i := 7) 38 rfl rfl rfl (by kernel_rfl) (by kernel_rfl) (by kernel_rfl) (by simp [Act.put]) hS7 ?_
  apply Exists.intro
  refine And.intro (fun w' hS' => ?_) ?_
  · clear hS'
    go_wp2
    exact ⟨trivial, rfl⟩
  refine pl_heavy (i := 6) rfl (by kernel_rfl) ?_
  go_wp2_with fail
  refine (HCB.out _).mono ?_
  rintro e w8 ⟨rfl, hb8⟩
  have hS8 : PS2 78 79 N s l w8 := ⟨CB.fresh hS7.1 hb8, CB.fresh hS7.2 hb8⟩
  have HB8 : Hid (Below N w w8) := Lib.hid (HB7.out.trans (hb8.mono (by have := HZ7.out; omega)))
  have HZ8 : Hid (N + 2 ≤ w8.heap.size) := Lib.hid (by have := hb8.size; have := HZ7.out; omega)
  clear hb8 hS7
  have HSS8 := Lib.hid hS8
  clear hS8
  go_wp2
  have hS8 := HSS8.out
  refine And.intro hS8 ?_
  refine pl_take (i := 8) 39 rfl rfl rfl (by kernel_rfl) (by kernel_rfl) (by kernel_rfl) (by simp [Act.put]) hS8 ?_
  apply Exists.intro
  refine And.intro (fun w' hS' => ?_) ?_
  · clear hS'
    go_wp2
    exact ⟨trivial, rfl⟩
  refine pl_take (i := 9) 40 rfl rfl rfl (by kernel_rfl) (by kernel_rfl) (by kernel_rfl) (by simp [Act.put]) hS8 ?_
  apply Exists.intro
  refine And.intro (fun w' hS' => ?_) ?_
  · clear hS'
    go_wp2
    exact ⟨trivial, rfl⟩
  refine pl_take (i := 10) 41 rfl rfl rfl (by kernel_rfl) (by kernel_rfl) (by kernel_rfl) (by simp [Act.put]) hS8 ?_
  apply Exists.intro
  refine And.intro (fun w' hS' => ?_) ?_
  · clear hS'
    go_wp2
    exact ⟨trivial, rfl⟩
  refine pl_take (i := 11) 42 rfl rfl rfl (by kernel_rfl) (by kernel_rfl) (by kernel_rfl) (by simp [Act.put]) hS8 ?_
  apply Exists.intro
  refine And.intro (fun w' hS' => ?_) ?_
  · refine wpList_unguard' rfl ?_
    refine wpList_load_agg rfl 78 (.tmp 4) rfl ⟨N, 0, none⟩ rfl (wds s.l) _ (CB.at hS'.1).load Try.underlying78 rfl (by rw [wds_length]; exact infoW8) ?_
    go_wp2
    exact ⟨trivial, rfl⟩
  refine pl_take (i := 12) 43 rfl rfl rfl (by kernel_rfl) (by kernel_rfl) (by kernel_rfl) (by simp [Act.put]) hS8 ?_
  apply Exists.intro
  refine And.intro (fun w' hS' => ?_) ?_
  · refine wpList_unguard' rfl ?_
    refine wpList_load_agg rfl 79 (.tmp 5) rfl ⟨N + 1, 0, none⟩ rfl (bvs l) _ (CB.at hS'.2).load Try.underlying79 rfl (by rw [bvs_length, HL.out]; exact infoB64) ?_
    go_wp2
    exact ⟨trivial, rfl⟩
  refine pl_take (i := 14) 45 rfl rfl rfl (by kernel_rfl) (by kernel_rfl) (by kernel_rfl) (by simp [Act.put]) hS8 ?_
  apply Exists.intro
  refine And.intro (fun w' hS' => ?_) ?_
  · refine wpList_unguard' rfl ?_
    refine wpList_load_agg rfl 78 (.tmp 4) rfl ⟨N, 0, none⟩ rfl (wds s.l) _ (CB.at hS'.1).load Try.underlying78 rfl (by rw [wds_length]; exact infoW8) ?_
    go_wp2
    exact ⟨trivial, rfl⟩
  refine pl_take (i := 15) 46 rfl rfl rfl (by kernel_rfl) (by kernel_rfl) (by kernel_rfl) (by simp [Act.put]) hS8 ?_
  apply Exists.intro
  refine And.intro (fun w' hS' => ?_) ?_
  · refine wpList_unguard' rfl ?_
    refine wpList_load_agg rfl 79 (.tmp 5) rfl ⟨N + 1, 0, none⟩ rfl (bvs l) _ (CB.at hS'.2).load Try.underlying79 rfl (by rw [bvs_length, HL.out]; exact infoB64) ?_
    go_wp2
    exact ⟨trivial, rfl⟩
  refine pl_heavy (i := 13) rfl (by kernel_rfl) ?_
  go_wp2_with fail
  refine (HC3.out _).mono ?_
  rintro e w9 ⟨rfl, hb9⟩
  have hS9 : PS2 78 79 N s l w9 := ⟨CB.fresh hS8.1 hb9, CB.fresh hS8.2 hb9⟩
  have HB9 : Hid (Below N w w9) := Lib.hid (HB8.out.trans (hb9.mono (by have := HZ8.out; omega)))
  have HZ9 : Hid (N + 2 ≤ w9.heap.size) := Lib.hid (by have := hb9.size; have := HZ8.out; omega)
  clear hb9 hS8
  have HSS9 := Lib.hid hS9
  clear hS9
  go_wp2
  have hS9 := HSS9.out
  refine And.intro hS9 ?_
  refine pl_heavy (i := 16) rfl (by kernel_rfl) ?_
  go_wp2_with fail
  refine (HC4.out _).mono ?_
  rintro e w10 ⟨rfl, hb10⟩
  have hS10 : PS2 78 79 N s l w10 := ⟨CB.fresh hS9.1 hb10, CB.fresh hS9.2 hb10⟩
  have HB10 : Hid (Below N w w10) := Lib.hid (HB9.out.trans (hb10.mono (by have := HZ9.out; omega)))
  have HZ10 : Hid (N + 2 ≤ w10.heap.size) := Lib.hid (by have := hb10.size; have := HZ9.out; omega)
  clear hb10 hS9
  have HSS10 := Lib.hid hS10
  clear hS10
  go_wp2
  have hS10 := HSS10.out
  refine And.intro hS10 ?_
  refine pl_take (i := 17) 48 rfl rfl rfl (by kernel_rfl) (by kernel_rfl) (by kernel_rfl) (by simp [Act.put]) hS10 ?_
  apply Exists.intro
  refine And.intro (fun w' hS' => ?_) ?_
  · refine wpList_unguard' rfl ?_
    refine wpList_bin rfl .eql 78 78 (.tmp 44) (.tmp 47) rfl (.bool true) (eqGuard_agg _ _ _ _ _ _ _ (by kernel_rfl)) (words_eq_self w' _ _ _ _ _ _ _ _) ?_
    go_wp2
    exact ⟨trivial, rfl⟩
  refine pl_take (i := 18) 49 rfl rfl rfl (by kernel_rfl) (by kernel_rfl) (by kernel_rfl) (by simp [Act.put]) hS10 ?_
  apply Exists.intro
  refine And.intro (fun w' hS' => ?_) ?_
  · clear hS'
    go_wp2
    exact ⟨trivial, rfl⟩
  refine pl_take (i := 19) 50 rfl rfl rfl (by kernel_rfl) (by kernel_rfl) (by kernel_rfl) (by simp [Act.put]) hS10 ?_
  apply Exists.intro
  refine And.intro (fun w' hS' => ?_) ?_
  · clear hS'
    go_wp2
    exact ⟨trivial, rfl⟩
  refine pl_heavy (i := 20) rfl (by kernel_rfl) ?_
  go_wp2_with fail
  refine (HC5.out _).mono ?_
  rintro e w11 ⟨rfl, hb11⟩
  have hS11 : PS2 78 79 N s l w11 := ⟨CB.fresh hS10.1 hb11, CB.fresh hS10.2 hb11⟩
  have HB11 : Hid (Below N w w11) := Lib.hid (HB10.out.trans (hb11.mono (by have := HZ10.out; omega)))
  have HZ11 : Hid (N + 2 ≤ w11.heap.size) := Lib.hid (by have := hb11.size; have := HZ10.out; omega)
  clear hb11 hS10
  have HSS11 := Lib.hid hS11
  clear hS11
  go_wp2
  have hS11 := HSS11.out
  refine And.intro hS11 ?_
  refine pl_take (i := 21) 52 rfl rfl rfl (by kernel_rfl) (by kernel_rfl) (by kernel_rfl) (by simp [Act.put]) hS11 ?_
  apply Exists.intro
  refine And.intro (fun w' hS' => ?_) ?_
  · clear hS'
    go_wp2
    exact ⟨trivial, rfl⟩
  refine pl_take (i := 22) 6 rfl rfl rfl (by kernel_rfl) (by kernel_rfl) (by kernel_rfl) (by simp [Act.put]) hS11 ?_
  apply Exists.intro
  refine And.intro (fun w' hS' => ?_) ?_
  · clear hS'
    go_wp2
    exact ⟨trivial, rfl⟩
  refine pl_done (by kernel_rfl) ?_
  go_wp2
  go_ret
  refine ⟨rfl, ?_⟩
  rw [← HN.out]
  exact HB11.out

set_option maxRecDepth 100000 in
set_option maxHeartbeats 800000 in
theorem parts_mid (w : World) (i : Int) (s : St) (l : List UInt8) (hl : l.length = 64) (h0 : 8 ≤ i) (h9 : i < 64) :
    Calls Try.prog 10 #[.int .i64 i, .agg (wds s.l).toArray, .agg (bvs l).toArray] w fun e w' => e = .returned (.bool true) ∧ Below w.heap.size w w' := by
  have CA := fun w0 => startI_any w0 i
  have CB' := fun w0 => constI_any w0 i
  rw [if_neg (by omega)] at CA
  rw [if_pos (by omega)] at CB'
  obtain ⟨k, rfl⟩ : ∃ k : Nat, i = (k : Int) := ⟨i.toNat, by omega⟩
  rw [show ((k : Int)).toNat = k from rfl] at CB'
  obtain ⟨xa, hxa⟩ : ∃ x : W32, x = 0 := ⟨_, rfl⟩
  rw [show (wd 0 : Value) = wd xa by rw [hxa]] at CA
  obtain ⟨xb, hxb⟩ : ∃ x, x = KS.getD k 0 := ⟨_, rfl⟩
  rw [← hxb] at CB'
  obtain ⟨XA, hXA⟩ : ∃ n, n = xa.toNat := ⟨_, rfl⟩
  obtain ⟨XB, hXB⟩ : ∃ n, n = xb.toNat := ⟨_, rfl⟩
  unfold wd at CA CB'
  rw [← hXA] at CA
  rw [← hXB] at CB'
  have C1 := fun w0 => rstarts_any w0
  have C2 := fun w0 => rconsts_any w0
  have C3 := fun w0 => spress_any w0 s l hl
  have C4 := fun w0 => rpress_any w0 s l hl
  have C5 := fun w0 => sknown_any w0
  obtain ⟨⟨ra, rb, rc, rd, re, rf, rg, rh⟩, hres⟩ : ∃ r, r = pressS KS s l := ⟨_, rfl⟩
  rw [← hres] at C3 C4
  have hst : ∀ (j : Nat), j < 8 → (wds S0.l)[j]? = some (wd (S0.l.getD j 0)) := fun j hj => wds_get _ _ hj
  have hkt : ∀ (j : Nat), j < 64 → (wds KS)[j]? = some (wd (KS.getD j 0)) := fun j hj => wds_get _ _ hj
  obtain ⟨SL, hSL⟩ : ∃ x, x = wds S0.l := ⟨_, rfl⟩
  obtain ⟨KL, hKL⟩ : ∃ x, x = wds KS := ⟨_, rfl⟩
  have hSLl : SL.length = 8 := by rw [hSL]; rfl
  have hKLl : KL.length = 64 := by rw [hKL]; rfl
  have hS1 : ∀ u ∈ SL, u.oneCell' = true := by rw [hSL]; exact wds_one _
  have hK1 : ∀ u ∈ KL, u.oneCell' = true := by rw [hKL]; exact wds_one _
  rw [← hSL] at C1 hst
  rw [← hKL] at C2 hkt
  have g0 : (0 : Int) ≤ (k : Int) := by omega
  have g1 : ¬ ((k : Int) < 8) := by omega
  have g2 : ((k : Int) < 64) := by omega
  have hza : XA = 0 := by rw [hXA, hxa]; rfl
  subst hza
  have hkc : KL[k]? = some (.int .u32 (XB : Int)) := by rw [hkt k (by omega), ← hxb, hXB]; rfl
  have HKC := Lib.hid hkc
  clear hxa hxb hkc
  have HCA := Lib.hid CA
  have HCB := Lib.hid CB'
  have HC1 := Lib.hid C1
  have HC2 := Lib.hid C2
  have HC3 := Lib.hid C3
  have HC4 := Lib.hid C4
  have HC5 := Lib.hid C5
  have HSL := Lib.hid (And.intro hSLl (And.intro hKLl (And.intro hS1 hK1)))
  have HL := Lib.hid hl
  clear CA CB' C1 C2 C3 C4 C5 hres hSL hKL hSLl hKLl hS1 hK1 hl hst hkt hXA hXB
  go_enter Try.func10, Try.ntmps10
  go_wp2_with fail
  obtain ⟨wa, ha, hak, hab, has⟩ := alloc_cb w 78 (wds s.l)
  obtain ⟨wb, hb, hbs, hbb, hbz⟩ := alloc_cb wa 79 (bvs l)
  change Calls _ _ _ ((w.alloc (.cells (wds s.l).toArray 78)).alloc (.cells (bvs l).toArray 79)) _
  rw [← ha, ← hb]
  rw [has] at hbz hbs
  have h1 := hak.fresh hbb
  have hBb : Below w.heap.size w wb := hab.trans (hbb.mono hab.size)
  obtain ⟨N, hN⟩ : ∃ N, N = w.heap.size := ⟨_, rfl⟩
  rw [← hN] at h1 hbs hbz hBb ⊢
  clear ha hb hak hab has hbb
  refine (HC1.out wb).mono ?_
  rintro e w1 ⟨rfl, hb1⟩
  have hP1 : PS2 78 79 N s l w1 := ⟨h1.fresh hb1, hbs.fresh hb1⟩
  have hB1 : Below N w w1 := hBb.trans (hb1.mono (by omega))
  have hz1 : N + 2 ≤ w1.heap.size := by have := hb1.size; omega
  have HP1 := Lib.hid hP1
  have HB1 := Lib.hid hB1
  have HN := Lib.hid hN
  clear h1 hbs hbz hBb hb1 hP1 hB1 hN
  go_wp2_with fail
  refine (HC2.out w1).mono ?_
  rintro e w2 ⟨rfl, hb2⟩
  have hP2 : PS2 78 79 N s l w2 := ⟨CB.fresh HP1.out.1 hb2, CB.fresh HP1.out.2 hb2⟩
  have hB2 : Below N w w2 := HB1.out.trans (hb2.mono (by omega))
  have hz2 : N + 2 ≤ w2.heap.size := by have := hb2.size; omega
  have HP2 := Lib.hid hP2
  have HB2 := Lib.hid hB2
  clear hb2 hP2 hB2 hz1 HP1 HB1
  go_wp2_with (with_reducible refine stopStore 78 ?_)
  refine Stop.go ?_
  obtain ⟨w3, hw3, h3k, h3b, h3z⟩ := alloc_cb w2 78 (wds (List.replicate 8 0))
  obtain ⟨w4, hw4, h4k, h4b, h4z⟩ := alloc_cb w3 81 (wds (List.replicate 64 0))
  change wpList _ _ _ _ _ ((w2.alloc (.cells (wds (List.replicate 8 0)).toArray 78)).alloc (.cells (wds (List.replicate 64 0)).toArray 81))
  rw [← hw3, ← hw4]
  clear hw3 hw4
  obtain ⟨G, hG⟩ : ∃ G, G = w2.heap.size := ⟨_, rfl⟩
  rw [h3z] at h4k
  have h3k' := h3k.fresh h4b
  have hb4 : Below G w2 w4 := by rw [hG]; exact h3b.trans (h4b.mono (by omega))
  rw [← hG] at h3k' h4k hz2 ⊢
  have HG := Lib.hid hG
  clear hG h3k h3b h3z h4b h4z
  refine wpList_store_var rfl 78 (.tmp 7) (.tmp 11) rfl G _ rfl _ SL rfl h3k' (by simp [HSL.out.1]) HSL.out.2.2.1 (by rw [HSL.out.1]; exact infoW8) ?_
  intro w5 hb5 ho5
  have h5k : CB w5 81 (G + 1) (wds (List.replicate 64 0)) := h4k.only ho5 (by omega)
  have h5s : CB w5 78 G SL := hb5
  have h5b : Below G w2 w5 := Below.only hb4 ho5 (Nat.le_refl _)
  clear hb5 ho5 h4k h3k' hb4
  go_wp2_with (with_reducible refine stopStore 81 ?_)
  refine Stop.go ?_
  refine wpList_store_var rfl 81 (.tmp 8) (.tmp 12) rfl (G + 1) _ rfl _ KL rfl h5k (by simp [HSL.out.2.1]) HSL.out.2.2.2 (by rw [HSL.out.2.1]; exact infoW64) ?_
  intro w6 hb6 ho6
  have h6s : CB w6 78 G SL := h5s.only ho6 (by omega)
  have h6k : CB w6 81 (G + 1) KL := hb6
  have h6b : Below G w2 w6 := Below.only h5b ho6 (by omega)
  have hS : PS2 78 79 N s l w6 := ⟨CB.below HP2.out.1 h6b (by omega), CB.below HP2.out.2 h6b (by omega)⟩
  have hB6 : Below N w w6 := HB2.out.trans (h6b.mono (by omega))
  have hz6 : N + 2 ≤ w6.heap.size := by have := h6b.size; have := HG.out; omega
  have cK : w6.cell? ⟨G + 1, k, none⟩ = some (.int .u32 (XB : Int)) := h6k.cell k _ HKC.out
  have HS6 := Lib.hid hS
  have HB6 := Lib.hid hB6
  have HZ6 := Lib.hid hz6
  clear hb6 ho6 h5k h5s h5b h6s h6k h6b hB6 hz6 hS HP2 HB2
  go_wp2_with fail
  have hS : PS2 78 79 N s l w6.drew := HS6.out
  refine pl_start 23 rfl (PS2 78 79 N s l) (by kernel_rfl) ?_
  refine pl_take (i := 0) 31 rfl rfl rfl (by kernel_rfl) (by kernel_rfl) (by kernel_rfl) (by simp [Act.put]) hS ?_
  apply Exists.intro
  refine And.intro (fun w' hS' => ?_) ?_
  · clear hS'
    go_wp2
    exact ⟨trivial, rfl⟩
  refine pl_take (i := 2) 33 rfl rfl rfl (by kernel_rfl) (by kernel_rfl) (by kernel_rfl) (by simp [Act.put]) hS ?_
  apply Exists.intro
  refine And.intro (fun w' hS' => ?_) ?_
  · clear hS'
    go_wp2
    exact ⟨trivial, rfl⟩
  refine pl_heavy (i := 1) rfl (by kernel_rfl) ?_
  go_wp2_with fail
  refine (HCA.out _).mono ?_
  rintro e w7 ⟨rfl, hb7⟩
  have hx7 : Below w6.heap.size w6 w7 := (Below.refl _ w6).drew.trans hb7
  have hS7 : PS2 78 79 N s l w7 := ⟨CB.fresh HS6.out.1 hx7, CB.fresh HS6.out.2 hx7⟩
  have HB7 : Hid (Below N w w7) := Lib.hid (HB6.out.trans (hx7.mono (by have := HZ6.out; omega)))
  have HZ7 : Hid (N + 2 ≤ w7.heap.size) := Lib.hid (by have := hx7.size; have := HZ6.out; omega)
  clear hb7 hx7 hS
  have HSS7 := Lib.hid hS7
  clear hS7
  go_wp2
  have hS7 := HSS7.out
  refine And.intro hS7 ?_
  refine pl_take (i := 3) 34 rfl rfl rfl (by kernel_rfl) (by kernel_rfl) (by kernel_rfl) (by simp [Act.put]) hS7 ?_
  apply Exists.intro
  refine And.intro (fun w' hS' => ?_) ?_
  · clear hS'
    go_wp2
    exact ⟨trivial, rfl⟩
  refine pl_take (i := 4) 35 rfl rfl rfl (by kernel_rfl) (by kernel_rfl) (by kernel_rfl) (by simp [Act.put]) hS7 ?_
  apply Exists.intro
  refine And.intro (fun w' hS' => ?_) ?_
  · clear hS'
    go_wp2
    exact ⟨trivial, rfl⟩
  refine pl_take (i := 5) 36 rfl rfl rfl (by kernel_rfl) (by kernel_rfl) (by kernel_rfl) (by simp [Act.put]) hS7 ?_
  apply Exists.intro
  refine And.intro (fun w' hS' => ?_) ?_
  · clear hS'
    go_wp2
    exact ⟨trivial, rfl⟩
  refine pl_take (i := 7) 38 rfl rfl rfl (by kernel_rfl) (by kernel_rfl) (by kernel_rfl) (by simp [Act.put]) hS7 ?_
  apply Exists.intro
  refine And.intro (fun w' hS' => ?_) ?_
  · clear hS'
    go_wp2
    exact ⟨trivial, rfl⟩
  refine pl_heavy (i := 6) rfl (by kernel_rfl) ?_
  go_wp2_with fail
  refine (HCB.out _).mono ?_
  rintro e w8 ⟨rfl, hb8⟩
  have hS8 : PS2 78 79 N s l w8 := ⟨CB.fresh hS7.1 hb8, CB.fresh hS7.2 hb8⟩
  have HB8 : Hid (Below N w w8) := Lib.hid (HB7.out.trans (hb8.mono (by have := HZ7.out; omega)))
  have HZ8 : Hid (N + 2 ≤ w8.heap.size) := Lib.hid (by have := hb8.size; have := HZ7.out; omega)
  clear hb8 hS7
  have HSS8 := Lib.hid hS8
  clear hS8
  go_wp2
  have hS8 := HSS8.out
  refine And.intro hS8 ?_
  refine pl_take (i := 8) 39 rfl rfl rfl (by kernel_rfl) (by kernel_rfl) (by kernel_rfl) (by simp [Act.put]) hS8 ?_
  apply Exists.intro
  refine And.intro (fun w' hS' => ?_) ?_
  · clear hS'
    go_wp2
    exact ⟨trivial, rfl⟩
  refine pl_take (i := 9) 40 rfl rfl rfl (by kernel_rfl) (by kernel_rfl) (by kernel_rfl) (by simp [Act.put]) hS8 ?_
  apply Exists.intro
  refine And.intro (fun w' hS' => ?_) ?_
  · clear hS'
    go_wp2
    exact ⟨trivial, rfl⟩
  refine pl_take (i := 10) 41 rfl rfl rfl (by kernel_rfl) (by kernel_rfl) (by kernel_rfl) (by simp [Act.put]) hS8 ?_
  apply Exists.intro
  refine And.intro (fun w' hS' => ?_) ?_
  · clear hS'
    go_wp2
    exact ⟨trivial, rfl⟩
  refine pl_take (i := 11) 42 rfl rfl rfl (by kernel_rfl) (by kernel_rfl) (by kernel_rfl) (by simp [Act.put]) hS8 ?_
  apply Exists.intro
  refine And.intro (fun w' hS' => ?_) ?_
  · refine wpList_unguard' rfl ?_
    refine wpList_load_agg rfl 78 (.tmp 4) rfl ⟨N, 0, none⟩ rfl (wds s.l) _ (CB.at hS'.1).load Try.underlying78 rfl (by rw [wds_length]; exact infoW8) ?_
    go_wp2
    exact ⟨trivial, rfl⟩
  refine pl_take (i := 12) 43 rfl rfl rfl (by kernel_rfl) (by kernel_rfl) (by kernel_rfl) (by simp [Act.put]) hS8 ?_
  apply Exists.intro
  refine And.intro (fun w' hS' => ?_) ?_
  · refine wpList_unguard' rfl ?_
    refine wpList_load_agg rfl 79 (.tmp 5) rfl ⟨N + 1, 0, none⟩ rfl (bvs l) _ (CB.at hS'.2).load Try.underlying79 rfl (by rw [bvs_length, HL.out]; exact infoB64) ?_
    go_wp2
    exact ⟨trivial, rfl⟩
  refine pl_take (i := 14) 45 rfl rfl rfl (by kernel_rfl) (by kernel_rfl) (by kernel_rfl) (by simp [Act.put]) hS8 ?_
  apply Exists.intro
  refine And.intro (fun w' hS' => ?_) ?_
  · refine wpList_unguard' rfl ?_
    refine wpList_load_agg rfl 78 (.tmp 4) rfl ⟨N, 0, none⟩ rfl (wds s.l) _ (CB.at hS'.1).load Try.underlying78 rfl (by rw [wds_length]; exact infoW8) ?_
    go_wp2
    exact ⟨trivial, rfl⟩
  refine pl_take (i := 15) 46 rfl rfl rfl (by kernel_rfl) (by kernel_rfl) (by kernel_rfl) (by simp [Act.put]) hS8 ?_
  apply Exists.intro
  refine And.intro (fun w' hS' => ?_) ?_
  · refine wpList_unguard' rfl ?_
    refine wpList_load_agg rfl 79 (.tmp 5) rfl ⟨N + 1, 0, none⟩ rfl (bvs l) _ (CB.at hS'.2).load Try.underlying79 rfl (by rw [bvs_length, HL.out]; exact infoB64) ?_
    go_wp2
    exact ⟨trivial, rfl⟩
  refine pl_heavy (i := 13) rfl (by kernel_rfl) ?_
  go_wp2_with fail
  refine (HC3.out _).mono ?_
  rintro e w9 ⟨rfl, hb9⟩
  have hS9 : PS2 78 79 N s l w9 := ⟨CB.fresh hS8.1 hb9, CB.fresh hS8.2 hb9⟩
  have HB9 : Hid (Below N w w9) := Lib.hid (HB8.out.trans (hb9.mono (by have := HZ8.out; omega)))
  have HZ9 : Hid (N + 2 ≤ w9.heap.size) := Lib.hid (by have := hb9.size; have := HZ8.out; omega)
  clear hb9 hS8
  have HSS9 := Lib.hid hS9
  clear hS9
  go_wp2
  have hS9 := HSS9.out
  refine And.intro hS9 ?_
  refine pl_heavy (i := 16) rfl (by kernel_rfl) ?_
  go_wp2_with fail
  refine (HC4.out _).mono ?_
  rintro e w10 ⟨rfl, hb10⟩
  have hS10 : PS2 78 79 N s l w10 := ⟨CB.fresh hS9.1 hb10, CB.fresh hS9.2 hb10⟩
  have HB10 : Hid (Below N w w10) := Lib.hid (HB9.out.trans (hb10.mono (by have := HZ9.out; omega)))
  have HZ10 : Hid (N + 2 ≤ w10.heap.size) := Lib.hid (by have := hb10.size; have := HZ9.out; omega)
  clear hb10 hS9
  have HSS10 := Lib.hid hS10
  clear hS10
  go_wp2
  have hS10 := HSS10.out
  refine And.intro hS10 ?_
  refine pl_take (i := 17) 48 rfl rfl rfl (by kernel_rfl) (by kernel_rfl) (by kernel_rfl) (by simp [Act.put]) hS10 ?_
  apply Exists.intro
  refine And.intro (fun w' hS' => ?_) ?_
  · refine wpList_unguard' rfl ?_
    refine wpList_bin rfl .eql 78 78 (.tmp 44) (.tmp 47) rfl (.bool true) (eqGuard_agg _ _ _ _ _ _ _ (by kernel_rfl)) (words_eq_self w' _ _ _ _ _ _ _ _) ?_
    go_wp2
    exact ⟨trivial, rfl⟩
  refine pl_take (i := 18) 49 rfl rfl rfl (by kernel_rfl) (by kernel_rfl) (by kernel_rfl) (by simp [Act.put]) hS10 ?_
  apply Exists.intro
  refine And.intro (fun w' hS' => ?_) ?_
  · clear hS'
    go_wp2
    exact ⟨trivial, rfl⟩
  refine pl_take (i := 19) 50 rfl rfl rfl (by kernel_rfl) (by kernel_rfl) (by kernel_rfl) (by simp [Act.put]) hS10 ?_
  apply Exists.intro
  refine And.intro (fun w' hS' => ?_) ?_
  · clear hS'
    go_wp2
    exact ⟨trivial, rfl⟩
  refine pl_heavy (i := 20) rfl (by kernel_rfl) ?_
  go_wp2_with fail
  refine (HC5.out _).mono ?_
  rintro e w11 ⟨rfl, hb11⟩
  have hS11 : PS2 78 79 N s l w11 := ⟨CB.fresh hS10.1 hb11, CB.fresh hS10.2 hb11⟩
  have HB11 : Hid (Below N w w11) := Lib.hid (HB10.out.trans (hb11.mono (by have := HZ10.out; omega)))
  have HZ11 : Hid (N + 2 ≤ w11.heap.size) := Lib.hid (by have := hb11.size; have := HZ10.out; omega)
  clear hb11 hS10
  have HSS11 := Lib.hid hS11
  clear hS11
  go_wp2
  have hS11 := HSS11.out
  refine And.intro hS11 ?_
  refine pl_take (i := 21) 52 rfl rfl rfl (by kernel_rfl) (by kernel_rfl) (by kernel_rfl) (by simp [Act.put]) hS11 ?_
  apply Exists.intro
  refine And.intro (fun w' hS' => ?_) ?_
  · clear hS'
    go_wp2
    exact ⟨trivial, rfl⟩
  refine pl_take (i := 22) 6 rfl rfl rfl (by kernel_rfl) (by kernel_rfl) (by kernel_rfl) (by simp [Act.put]) hS11 ?_
  apply Exists.intro
  refine And.intro (fun w' hS' => ?_) ?_
  · clear hS'
    go_wp2
    exact ⟨trivial, rfl⟩
  refine pl_done (by kernel_rfl) ?_
  go_wp2
  go_ret
  refine ⟨rfl, ?_⟩
  rw [← HN.out]
  exact HB11.out

set_option maxRecDepth 100000 in
set_option maxHeartbeats 800000 in
theorem parts_low (w : World) (i : Int) (s : St) (l : List UInt8) (hl : l.length = 64) (h0 : 0 ≤ i) (h9 : i < 8) :
    Calls Try.prog 10 #[.int .i64 i, .agg (wds s.l).toArray, .agg (bvs l).toArray] w fun e w' => e = .returned (.bool true) ∧ Below w.heap.size w w' := by
  have CA := fun w0 => startI_any w0 i
  have CB' := fun w0 => constI_any w0 i
  rw [if_pos (by omega)] at CA CB'
  obtain ⟨k, rfl⟩ : ∃ k : Nat, i = (k : Int) := ⟨i.toNat, by omega⟩
  rw [show ((k : Int)).toNat = k from rfl] at CA CB'
  obtain ⟨xa, hxa⟩ : ∃ x, x = S0.l.getD k 0 := ⟨_, rfl⟩
  rw [← hxa] at CA
  obtain ⟨xb, hxb⟩ : ∃ x, x = KS.getD k 0 := ⟨_, rfl⟩
  rw [← hxb] at CB'
  obtain ⟨XA, hXA⟩ : ∃ n, n = xa.toNat := ⟨_, rfl⟩
  obtain ⟨XB, hXB⟩ : ∃ n, n = xb.toNat := ⟨_, rfl⟩
  unfold wd at CA CB'
  rw [← hXA] at CA
  rw [← hXB] at CB'
  have C1 := fun w0 => rstarts_any w0
  have C2 := fun w0 => rconsts_any w0
  have C3 := fun w0 => spress_any w0 s l hl
  have C4 := fun w0 => rpress_any w0 s l hl
  have C5 := fun w0 => sknown_any w0
  obtain ⟨⟨ra, rb, rc, rd, re, rf, rg, rh⟩, hres⟩ : ∃ r, r = pressS KS s l := ⟨_, rfl⟩
  rw [← hres] at C3 C4
  have hst : ∀ (j : Nat), j < 8 → (wds S0.l)[j]? = some (wd (S0.l.getD j 0)) := fun j hj => wds_get _ _ hj
  have hkt : ∀ (j : Nat), j < 64 → (wds KS)[j]? = some (wd (KS.getD j 0)) := fun j hj => wds_get _ _ hj
  obtain ⟨SL, hSL⟩ : ∃ x, x = wds S0.l := ⟨_, rfl⟩
  obtain ⟨KL, hKL⟩ : ∃ x, x = wds KS := ⟨_, rfl⟩
  have hSLl : SL.length = 8 := by rw [hSL]; rfl
  have hKLl : KL.length = 64 := by rw [hKL]; rfl
  have hS1 : ∀ u ∈ SL, u.oneCell' = true := by rw [hSL]; exact wds_one _
  have hK1 : ∀ u ∈ KL, u.oneCell' = true := by rw [hKL]; exact wds_one _
  rw [← hSL] at C1 hst
  rw [← hKL] at C2 hkt
  have g0 : (0 : Int) ≤ (k : Int) := by omega
  have g1 : ((k : Int) < 8) := by omega
  have g2 : ((k : Int) < 64) := by omega
  have hsc : SL[k]? = some (.int .u32 (XA : Int)) := by rw [hst k (by omega), ← hxa, hXA]; rfl
  have hkc : KL[k]? = some (.int .u32 (XB : Int)) := by rw [hkt k (by omega), ← hxb, hXB]; rfl
  have HSC := Lib.hid hsc
  have HKC := Lib.hid hkc
  clear hxa hxb hkc hsc
  have HCA := Lib.hid CA
  have HCB := Lib.hid CB'
  have HC1 := Lib.hid C1
  have HC2 := Lib.hid C2
  have HC3 := Lib.hid C3
  have HC4 := Lib.hid C4
  have HC5 := Lib.hid C5
  have HSL := Lib.hid (And.intro hSLl (And.intro hKLl (And.intro hS1 hK1)))
  have HL := Lib.hid hl
  clear CA CB' C1 C2 C3 C4 C5 hres hSL hKL hSLl hKLl hS1 hK1 hl hst hkt hXA hXB
  go_enter Try.func10, Try.ntmps10
  go_wp2_with fail
  obtain ⟨wa, ha, hak, hab, has⟩ := alloc_cb w 78 (wds s.l)
  obtain ⟨wb, hb, hbs, hbb, hbz⟩ := alloc_cb wa 79 (bvs l)
  change Calls _ _ _ ((w.alloc (.cells (wds s.l).toArray 78)).alloc (.cells (bvs l).toArray 79)) _
  rw [← ha, ← hb]
  rw [has] at hbz hbs
  have h1 := hak.fresh hbb
  have hBb : Below w.heap.size w wb := hab.trans (hbb.mono hab.size)
  obtain ⟨N, hN⟩ : ∃ N, N = w.heap.size := ⟨_, rfl⟩
  rw [← hN] at h1 hbs hbz hBb ⊢
  clear ha hb hak hab has hbb
  refine (HC1.out wb).mono ?_
  rintro e w1 ⟨rfl, hb1⟩
  have hP1 : PS2 78 79 N s l w1 := ⟨h1.fresh hb1, hbs.fresh hb1⟩
  have hB1 : Below N w w1 := hBb.trans (hb1.mono (by omega))
  have hz1 : N + 2 ≤ w1.heap.size := by have := hb1.size; omega
  have HP1 := Lib.hid hP1
  have HB1 := Lib.hid hB1
  have HN := Lib.hid hN
  clear h1 hbs hbz hBb hb1 hP1 hB1 hN
  go_wp2_with fail
  refine (HC2.out w1).mono ?_
  rintro e w2 ⟨rfl, hb2⟩
  have hP2 : PS2 78 79 N s l w2 := ⟨CB.fresh HP1.out.1 hb2, CB.fresh HP1.out.2 hb2⟩
  have hB2 : Below N w w2 := HB1.out.trans (hb2.mono (by omega))
  have hz2 : N + 2 ≤ w2.heap.size := by have := hb2.size; omega
  have HP2 := Lib.hid hP2
  have HB2 := Lib.hid hB2
  clear hb2 hP2 hB2 hz1 HP1 HB1
  go_wp2_with (with_reducible refine stopStore 78 ?_)
  refine Stop.go ?_
  obtain ⟨w3, hw3, h3k, h3b, h3z⟩ := alloc_cb w2 78 (wds (List.replicate 8 0))
  obtain ⟨w4, hw4, h4k, h4b, h4z⟩ := alloc_cb w3 81 (wds (List.replicate 64 0))
  change wpList _ _ _ _ _ ((w2.alloc (.cells (wds (List.replicate 8 0)).toArray 78)).alloc (.cells (wds (List.replicate 64 0)).toArray 81))
  rw [← hw3, ← hw4]
  clear hw3 hw4
  obtain ⟨G, hG⟩ : ∃ G, G = w2.heap.size := ⟨_, rfl⟩
  rw [h3z] at h4k
  have h3k' := h3k.fresh h4b
  have hb4 : Below G w2 w4 := by rw [hG]; exact h3b.trans (h4b.mono (by omega))
  rw [← hG] at h3k' h4k hz2 ⊢
  have HG := Lib.hid hG
  clear hG h3k h3b h3z h4b h4z
  refine wpList_store_var rfl 78 (.tmp 7) (.tmp 11) rfl G _ rfl _ SL rfl h3k' (by simp [HSL.out.1]) HSL.out.2.2.1 (by rw [HSL.out.1]; exact infoW8) ?_
  intro w5 hb5 ho5
  have h5k : CB w5 81 (G + 1) (wds (List.replicate 64 0)) := h4k.only ho5 (by omega)
  have h5s : CB w5 78 G SL := hb5
  have h5b : Below G w2 w5 := Below.only hb4 ho5 (Nat.le_refl _)
  clear hb5 ho5 h4k h3k' hb4
  go_wp2_with (with_reducible refine stopStore 81 ?_)
  refine Stop.go ?_
  refine wpList_store_var rfl 81 (.tmp 8) (.tmp 12) rfl (G + 1) _ rfl _ KL rfl h5k (by simp [HSL.out.2.1]) HSL.out.2.2.2 (by rw [HSL.out.2.1]; exact infoW64) ?_
  intro w6 hb6 ho6
  have h6s : CB w6 78 G SL := h5s.only ho6 (by omega)
  have h6k : CB w6 81 (G + 1) KL := hb6
  have h6b : Below G w2 w6 := Below.only h5b ho6 (by omega)
  have hS : PS2 78 79 N s l w6 := ⟨CB.below HP2.out.1 h6b (by omega), CB.below HP2.out.2 h6b (by omega)⟩
  have hB6 : Below N w w6 := HB2.out.trans (h6b.mono (by omega))
  have hz6 : N + 2 ≤ w6.heap.size := by have := h6b.size; have := HG.out; omega
  have cK : w6.cell? ⟨G + 1, k, none⟩ = some (.int .u32 (XB : Int)) := h6k.cell k _ HKC.out
  have cS : w6.cell? ⟨G, k, none⟩ = some (.int .u32 (XA : Int)) := h6s.cell k _ HSC.out
  have HS6 := Lib.hid hS
  have HB6 := Lib.hid hB6
  have HZ6 := Lib.hid hz6
  clear hb6 ho6 h5k h5s h5b h6s h6k h6b hB6 hz6 hS HP2 HB2
  go_wp2_with fail
  have hS : PS2 78 79 N s l w6.drew := HS6.out
  refine pl_start 23 rfl (PS2 78 79 N s l) (by kernel_rfl) ?_
  refine pl_take (i := 0) 31 rfl rfl rfl (by kernel_rfl) (by kernel_rfl) (by kernel_rfl) (by simp [Act.put]) hS ?_
  apply Exists.intro
  refine And.intro (fun w' hS' => ?_) ?_
  · clear hS'
    go_wp2
    exact ⟨trivial, rfl⟩
  refine pl_take (i := 2) 33 rfl rfl rfl (by kernel_rfl) (by kernel_rfl) (by kernel_rfl) (by simp [Act.put]) hS ?_
  apply Exists.intro
  refine And.intro (fun w' hS' => ?_) ?_
  · clear hS'
    go_wp2
    exact ⟨trivial, rfl⟩
  refine pl_heavy (i := 1) rfl (by kernel_rfl) ?_
  go_wp2_with fail
  refine (HCA.out _).mono ?_
  rintro e w7 ⟨rfl, hb7⟩
  have hx7 : Below w6.heap.size w6 w7 := (Below.refl _ w6).drew.trans hb7
  have hS7 : PS2 78 79 N s l w7 := ⟨CB.fresh HS6.out.1 hx7, CB.fresh HS6.out.2 hx7⟩
  have HB7 : Hid (Below N w w7) := Lib.hid (HB6.out.trans (hx7.mono (by have := HZ6.out; omega)))
  have HZ7 : Hid (N + 2 ≤ w7.heap.size) := Lib.hid (by have := hx7.size; have := HZ6.out; omega)
  clear hb7 hx7 hS
  have HSS7 := Lib.hid hS7
  clear hS7
  go_wp2
  have hS7 := HSS7.out
  refine And.intro hS7 ?_
  refine pl_take (i := 3) 34 rfl rfl rfl (by kernel_rfl) (by kernel_rfl) (by kernel_rfl) (by simp [Act.put]) hS7 ?_
  apply Exists.intro
  refine And.intro (fun w' hS' => ?_) ?_
  · clear hS'
    go_wp2
    exact ⟨trivial, rfl⟩
  refine pl_take (i := 4) 35 rfl rfl rfl (by kernel_rfl) (by kernel_rfl) (by kernel_rfl) (by simp [Act.put]) hS7 ?_
  apply Exists.intro
  refine And.intro (fun w' hS' => ?_) ?_
  · clear hS'
    go_wp2
    exact ⟨trivial, rfl⟩
  refine pl_take (i := 5) 36 rfl rfl rfl (by kernel_rfl) (by kernel_rfl) (by kernel_rfl) (by simp [Act.put]) hS7 ?_
  apply Exists.intro
  refine And.intro (fun w' hS' => ?_) ?_
  · clear hS'
    go_wp2
    exact ⟨trivial, rfl⟩
  refine pl_take (i := 7) 38 rfl rfl rfl (by kernel_rfl) (by kernel_rfl) (by kernel_rfl) (by simp [Act.put]) hS7 ?_
  apply Exists.intro
  refine And.intro (fun w' hS' => ?_) ?_
  · clear hS'
    go_wp2
    exact ⟨trivial, rfl⟩
  refine pl_heavy (i := 6) rfl (by kernel_rfl) ?_
  go_wp2_with fail
  refine (HCB.out _).mono ?_
  rintro e w8 ⟨rfl, hb8⟩
  have hS8 : PS2 78 79 N s l w8 := ⟨CB.fresh hS7.1 hb8, CB.fresh hS7.2 hb8⟩
  have HB8 : Hid (Below N w w8) := Lib.hid (HB7.out.trans (hb8.mono (by have := HZ7.out; omega)))
  have HZ8 : Hid (N + 2 ≤ w8.heap.size) := Lib.hid (by have := hb8.size; have := HZ7.out; omega)
  clear hb8 hS7
  have HSS8 := Lib.hid hS8
  clear hS8
  go_wp2
  have hS8 := HSS8.out
  refine And.intro hS8 ?_
  refine pl_take (i := 8) 39 rfl rfl rfl (by kernel_rfl) (by kernel_rfl) (by kernel_rfl) (by simp [Act.put]) hS8 ?_
  apply Exists.intro
  refine And.intro (fun w' hS' => ?_) ?_
  · clear hS'
    go_wp2
    exact ⟨trivial, rfl⟩
  refine pl_take (i := 9) 40 rfl rfl rfl (by kernel_rfl) (by kernel_rfl) (by kernel_rfl) (by simp [Act.put]) hS8 ?_
  apply Exists.intro
  refine And.intro (fun w' hS' => ?_) ?_
  · clear hS'
    go_wp2
    exact ⟨trivial, rfl⟩
  refine pl_take (i := 10) 41 rfl rfl rfl (by kernel_rfl) (by kernel_rfl) (by kernel_rfl) (by simp [Act.put]) hS8 ?_
  apply Exists.intro
  refine And.intro (fun w' hS' => ?_) ?_
  · clear hS'
    go_wp2
    exact ⟨trivial, rfl⟩
  refine pl_take (i := 11) 42 rfl rfl rfl (by kernel_rfl) (by kernel_rfl) (by kernel_rfl) (by simp [Act.put]) hS8 ?_
  apply Exists.intro
  refine And.intro (fun w' hS' => ?_) ?_
  · refine wpList_unguard' rfl ?_
    refine wpList_load_agg rfl 78 (.tmp 4) rfl ⟨N, 0, none⟩ rfl (wds s.l) _ (CB.at hS'.1).load Try.underlying78 rfl (by rw [wds_length]; exact infoW8) ?_
    go_wp2
    exact ⟨trivial, rfl⟩
  refine pl_take (i := 12) 43 rfl rfl rfl (by kernel_rfl) (by kernel_rfl) (by kernel_rfl) (by simp [Act.put]) hS8 ?_
  apply Exists.intro
  refine And.intro (fun w' hS' => ?_) ?_
  · refine wpList_unguard' rfl ?_
    refine wpList_load_agg rfl 79 (.tmp 5) rfl ⟨N + 1, 0, none⟩ rfl (bvs l) _ (CB.at hS'.2).load Try.underlying79 rfl (by rw [bvs_length, HL.out]; exact infoB64) ?_
    go_wp2
    exact ⟨trivial, rfl⟩
  refine pl_take (i := 14) 45 rfl rfl rfl (by kernel_rfl) (by kernel_rfl) (by kernel_rfl) (by simp [Act.put]) hS8 ?_
  apply Exists.intro
  refine And.intro (fun w' hS' => ?_) ?_
  · refine wpList_unguard' rfl ?_
    refine wpList_load_agg rfl 78 (.tmp 4) rfl ⟨N, 0, none⟩ rfl (wds s.l) _ (CB.at hS'.1).load Try.underlying78 rfl (by rw [wds_length]; exact infoW8) ?_
    go_wp2
    exact ⟨trivial, rfl⟩
  refine pl_take (i := 15) 46 rfl rfl rfl (by kernel_rfl) (by kernel_rfl) (by kernel_rfl) (by simp [Act.put]) hS8 ?_
  apply Exists.intro
  refine And.intro (fun w' hS' => ?_) ?_
  · refine wpList_unguard' rfl ?_
    refine wpList_load_agg rfl 79 (.tmp 5) rfl ⟨N + 1, 0, none⟩ rfl (bvs l) _ (CB.at hS'.2).load Try.underlying79 rfl (by rw [bvs_length, HL.out]; exact infoB64) ?_
    go_wp2
    exact ⟨trivial, rfl⟩
  refine pl_heavy (i := 13) rfl (by kernel_rfl) ?_
  go_wp2_with fail
  refine (HC3.out _).mono ?_
  rintro e w9 ⟨rfl, hb9⟩
  have hS9 : PS2 78 79 N s l w9 := ⟨CB.fresh hS8.1 hb9, CB.fresh hS8.2 hb9⟩
  have HB9 : Hid (Below N w w9) := Lib.hid (HB8.out.trans (hb9.mono (by have := HZ8.out; omega)))
  have HZ9 : Hid (N + 2 ≤ w9.heap.size) := Lib.hid (by have := hb9.size; have := HZ8.out; omega)
  clear hb9 hS8
  have HSS9 := Lib.hid hS9
  clear hS9
  go_wp2
  have hS9 := HSS9.out
  refine And.intro hS9 ?_
  refine pl_heavy (i := 16) rfl (by kernel_rfl) ?_
  go_wp2_with fail
  refine (HC4.out _).mono ?_
  rintro e w10 ⟨rfl, hb10⟩
  have hS10 : PS2 78 79 N s l w10 := ⟨CB.fresh hS9.1 hb10, CB.fresh hS9.2 hb10⟩
  have HB10 : Hid (Below N w w10) := Lib.hid (HB9.out.trans (hb10.mono (by have := HZ9.out; omega)))
  have HZ10 : Hid (N + 2 ≤ w10.heap.size) := Lib.hid (by have := hb10.size; have := HZ9.out; omega)
  clear hb10 hS9
  have HSS10 := Lib.hid hS10
  clear hS10
  go_wp2
  have hS10 := HSS10.out
  refine And.intro hS10 ?_
  refine pl_take (i := 17) 48 rfl rfl rfl (by kernel_rfl) (by kernel_rfl) (by kernel_rfl) (by simp [Act.put]) hS10 ?_
  apply Exists.intro
  refine And.intro (fun w' hS' => ?_) ?_
  · refine wpList_unguard' rfl ?_
    refine wpList_bin rfl .eql 78 78 (.tmp 44) (.tmp 47) rfl (.bool true) (eqGuard_agg _ _ _ _ _ _ _ (by kernel_rfl)) (words_eq_self w' _ _ _ _ _ _ _ _) ?_
    go_wp2
    exact ⟨trivial, rfl⟩
  refine pl_take (i := 18) 49 rfl rfl rfl (by kernel_rfl) (by kernel_rfl) (by kernel_rfl) (by simp [Act.put]) hS10 ?_
  apply Exists.intro
  refine And.intro (fun w' hS' => ?_) ?_
  · clear hS'
    go_wp2
    exact ⟨trivial, rfl⟩
  refine pl_take (i := 19) 50 rfl rfl rfl (by kernel_rfl) (by kernel_rfl) (by kernel_rfl) (by simp [Act.put]) hS10 ?_
  apply Exists.intro
  refine And.intro (fun w' hS' => ?_) ?_
  · clear hS'
    go_wp2
    exact ⟨trivial, rfl⟩
  refine pl_heavy (i := 20) rfl (by kernel_rfl) ?_
  go_wp2_with fail
  refine (HC5.out _).mono ?_
  rintro e w11 ⟨rfl, hb11⟩
  have hS11 : PS2 78 79 N s l w11 := ⟨CB.fresh hS10.1 hb11, CB.fresh hS10.2 hb11⟩
  have HB11 : Hid (Below N w w11) := Lib.hid (HB10.out.trans (hb11.mono (by have := HZ10.out; omega)))
  have HZ11 : Hid (N + 2 ≤ w11.heap.size) := Lib.hid (by have := hb11.size; have := HZ10.out; omega)
  clear hb11 hS10
  have HSS11 := Lib.hid hS11
  clear hS11
  go_wp2
  have hS11 := HSS11.out
  refine And.intro hS11 ?_
  refine pl_take (i := 21) 52 rfl rfl rfl (by kernel_rfl) (by kernel_rfl) (by kernel_rfl) (by simp [Act.put]) hS11 ?_
  apply Exists.intro
  refine And.intro (fun w' hS' => ?_) ?_
  · clear hS'
    go_wp2
    exact ⟨trivial, rfl⟩
  refine pl_take (i := 22) 6 rfl rfl rfl (by kernel_rfl) (by kernel_rfl) (by kernel_rfl) (by simp [Act.put]) hS11 ?_
  apply Exists.intro
  refine And.intro (fun w' hS' => ?_) ?_
  · clear hS'
    go_wp2
    exact ⟨trivial, rfl⟩
  refine pl_done (by kernel_rfl) ?_
  go_wp2
  go_ret
  refine ⟨rfl, ?_⟩
  rw [← HN.out]
  exact HB11.out

theorem parts_any (w : World) (i : Int) (s : St) (l : List UInt8) (hl : l.length = 64) :
    Calls Try.prog 10 #[.int .i64 i, .agg (wds s.l).toArray, .agg (bvs l).toArray] w fun e w' => e = .returned (.bool true) ∧ Below w.heap.size w w' := by
  by_cases h0 : i < 0
  · exact parts_neg w i s l hl h0
  · by_cases h8 : i < 8
    · exact parts_low w i s l hl (by omega) h8
    · by_cases h64 : i < 64
      · exact parts_mid w i s l hl (by omega) h64
      · exact parts_big w i s l hl (by omega)
end Go.Proofs.Ytdljpgihfjpnjaa
