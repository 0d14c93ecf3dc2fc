/- ShaParts: words of the start, constants, a block pressed: the walks and the law. -/
import Derived.Test.YtdljpgihfjpnjaaSx
import Derived.Test.YtdljpgihfjpnjaaPlan
namespace Go.Proofs.Ytdljpgihfjpnjaa
set_option linter.unusedVariables false
set_option linter.unusedSimpArgs false
open Go.RowKit Go.Lib

set_option maxRecDepth 100000 in
theorem startI_any (w : World) (i : Int) :
    Calls Try.prog 45 #[.int .i64 i] w fun e w' => e = .returned (wd (if 0 ≤ i ∧ i < 8 then S0.l.getD i.toNat 0 else 0)) ∧ Below w.heap.size w w' := by
  by_cases h0 : i < 0
  · rw [if_neg (by omega)]
    go_enter Try.func45, Try.ntmps45
    go_wp2
    go_ret
    exact ⟨rfl, Below.refl _ _⟩
  · by_cases h1 : 7 < i
    · rw [if_neg (by omega)]
      go_enter Try.func45, Try.ntmps45
      go_wp2
      go_ret
      exact ⟨rfl, Below.refl _ _⟩
    · rw [if_pos (by omega)]
      obtain ⟨k, rfl⟩ : ∃ k : Nat, i = (k : Int) := ⟨i.toNat, by omega⟩
      have hk : k < 8 := by omega
      have hPl : (primes64.take 8).length = 8 := rfl
      have hPget : ∀ k, k < 8 → (primes64.take 8).getD k 0 < 1000 ∧ squareW ((primes64.take 8).getD k 0) = S0.l.getD k 0 := by
        intro k hk
        have h1 := squares_ok
        refine ⟨?_, ?_⟩
        · revert k; decide +kernel
        · rw [← h1]
          simp [List.getD_eq_getElem?_getD, hk, hPl]
          try (rw [List.getElem?_eq_getElem (by rw [show primes64.length = 64 from rfl]; omega)]; rfl)
      have CP := fun w0 => primes_any w0 8 18 (by rw [pr8]; rfl) (by omega)
      rw [pr8] at CP
      have hqq := hPget k hk
      obtain ⟨PL, hPL⟩ : ∃ l, l = primes64.take 8 := ⟨_, rfl⟩
      rw [← hPL] at hPl hqq CP
      obtain ⟨q, hq⟩ : ∃ q, q = PL.getD k 0 := ⟨_, rfl⟩
      rw [← hq] at hqq
      have C := fun w0 => square_any w0 q 
      rw [show BitVec.ofNat 32 (rootN (sqG q) 36) = S0.l.getD k 0 from hqq.2] at C
      rw [show ((k : Int)).toNat = k from rfl]
      obtain ⟨x, hx⟩ : ∃ x, x = S0.l.getD k 0 := ⟨_, rfl⟩
      rw [← hx] at C ⊢
      have HC := Lib.hid C
      have HCP := Lib.hid CP
      have HQ := Lib.hid (And.intro hq hPl)
      have bk : (k : Int) < 8 := by omega
      have b0 : ¬ ((k : Int) < 0) := by omega
      have b1 : ¬ (7 < (k : Int)) := by omega
      clear hPget hqq hPL hq hPl C CP hx h0 h1
      go_enter Try.func45, Try.ntmps45
      go_wp2_with fail
      refine (HCP.out w).mono ?_
      rintro e w1 ⟨v, rfl, hr, _, hb⟩
      rcases hr.2 with ⟨_, h0⟩ | ⟨ad, c, rfl, _, _, hcell⟩
      · omega
      have fk : w1.cell? (ad.add k) = some (.int .u64 (q : Int)) := by
        rw [HQ.out.1]
        exact hcell k _ (ns_get _ _ (by rw [HQ.out.2]; exact hk))
      have HB := Lib.hid hb
      clear hr hcell hb
      go_wp2_with fail
      refine (HC.out w1).mono ?_
      rintro e w2 ⟨rfl, hb2⟩
      have HB2 := Lib.hid (HB.out.trans (hb2.mono HB.out.size))
      clear hb2
      obtain ⟨X, hX⟩ : ∃ n, n = x.toNat := ⟨_, rfl⟩
      unfold wd
      rw [← hX]
      have HX := Lib.hid hX
      clear hX
      go_wp2
      go_ret
      refine ⟨?_, HB2.out⟩
      rw [HX.out]
      rfl

set_option maxRecDepth 100000 in
theorem constI_any (w : World) (i : Int) :
    Calls Try.prog 44 #[.int .i64 i] w fun e w' => e = .returned (wd (if 0 ≤ i ∧ i < 64 then KS.getD i.toNat 0 else 0)) ∧ Below w.heap.size w w' := by
  by_cases h0 : i < 0
  · rw [if_neg (by omega)]
    go_enter Try.func44, Try.ntmps44
    go_wp2
    go_ret
    exact ⟨rfl, Below.refl _ _⟩
  · by_cases h1 : 63 < i
    · rw [if_neg (by omega)]
      go_enter Try.func44, Try.ntmps44
      go_wp2
      go_ret
      exact ⟨rfl, Below.refl _ _⟩
    · rw [if_pos (by omega)]
      obtain ⟨k, rfl⟩ : ∃ k : Nat, i = (k : Int) := ⟨i.toNat, by omega⟩
      have hk : k < 64 := by omega
      have hPl : (primes64.take 64).length = 64 := rfl
      have hPget : ∀ k, k < 64 → (primes64.take 64).getD k 0 < 1000 ∧ cubeW ((primes64.take 64).getD k 0) = KS.getD k 0 := by
        intro k hk
        have h1 := cubes_ok
        refine ⟨?_, ?_⟩
        · revert k; decide +kernel
        · rw [← h1]
          simp [List.getD_eq_getElem?_getD, hk, hPl]
          try (rw [List.getElem?_eq_getElem (by rw [show primes64.length = 64 from rfl]; omega)]; rfl)
      have CP := fun w0 => primes_any w0 64 310 (by rw [pr64]; rfl) (by omega)
      rw [pr64] at CP
      have hqq := hPget k hk
      obtain ⟨PL, hPL⟩ : ∃ l, l = primes64.take 64 := ⟨_, rfl⟩
      rw [← hPL] at hPl hqq CP
      obtain ⟨q, hq⟩ : ∃ q, q = PL.getD k 0 := ⟨_, rfl⟩
      rw [← hq] at hqq
      have C := fun w0 => cube_any w0 q (by omega)
      rw [show BitVec.ofNat 32 (rootN (cuG q) 36) = KS.getD k 0 from hqq.2] at C
      rw [show ((k : Int)).toNat = k from rfl]
      obtain ⟨x, hx⟩ : ∃ x, x = KS.getD k 0 := ⟨_, rfl⟩
      rw [← hx] at C ⊢
      have HC := Lib.hid C
      have HCP := Lib.hid CP
      have HQ := Lib.hid (And.intro hq hPl)
      have bk : (k : Int) < 64 := by omega
      have b0 : ¬ ((k : Int) < 0) := by omega
      have b1 : ¬ (63 < (k : Int)) := by omega
      clear hPget hqq hPL hq hPl C CP hx h0 h1
      go_enter Try.func44, Try.ntmps44
      go_wp2_with fail
      refine (HCP.out w).mono ?_
      rintro e w1 ⟨v, rfl, hr, _, hb⟩
      rcases hr.2 with ⟨_, h0⟩ | ⟨ad, c, rfl, _, _, hcell⟩
      · omega
      have fk : w1.cell? (ad.add k) = some (.int .u64 (q : Int)) := by
        rw [HQ.out.1]
        exact hcell k _ (ns_get _ _ (by rw [HQ.out.2]; exact hk))
      have HB := Lib.hid hb
      clear hr hcell hb
      go_wp2_with fail
      refine (HC.out w1).mono ?_
      rintro e w2 ⟨rfl, hb2⟩
      have HB2 := Lib.hid (HB.out.trans (hb2.mono HB.out.size))
      clear hb2
      obtain ⟨X, hX⟩ : ∃ n, n = x.toNat := ⟨_, rfl⟩
      unfold wd
      rw [← hX]
      have HX := Lib.hid hX
      clear hX
      go_wp2
      go_ret
      refine ⟨?_, HB2.out⟩
      rw [HX.out]
      rfl


theorem run_isAgg_u32' (w : World) : (isAgg 76).run Try.prog w = .ok false w := run_isAgg_u32 w

/-- Words compare as what they are. -/
theorem words_eq_self (w : World) (a b c d e f g h : W32) :
    (binOp .eql 78 (.agg (wds [a, b, c, d, e, f, g, h]).toArray) (.agg (wds [a, b, c, d, e, f, g, h]).toArray)).run Try.prog w = .ok (.bool true) w := by
  have hs := run_size_of infoW
  have hp : ∀ (n : Int) (w' : World), (Op.equalIn 9999 76 (.int .u32 n) (.int .u32 n)).run Try.prog w' = .ok true w' := by
    intro n w'
    rw [run_equalIn_int w' 9998 76 .u32 .u32 n n Try.underlying76]
    simp
  rw [run_eql_struct]
  rw [show (10000 : Nat) = 9999 + 1 from rfl, Op.equalIn]
  simp [Sem.run_bind, run_underlying Try.underlying78, hs, part, run_isAgg_u32, wds, wd, hp, Std.Legacy.Range.forIn_eq_forIn_range', Std.Legacy.Range.size, List.range']

def PSt (t : TypeId) (N : Nat) (s : St) (w : World) : Prop := CB w t N (wds s.l)

set_option maxRecDepth 100000 in
theorem spress_any (w : World) (s : St) (l : List UInt8) (hl : l.length = 64) :
    Calls Try.prog 48 #[.agg (wds s.l).toArray, .agg (bvs l).toArray] w fun e w' => e = .returned (.agg (wds (pressS KS s l).l).toArray) ∧ Below w.heap.size w w' := by
  have HCK := Lib.hid (fun w0 => constants_any w0)
  obtain ⟨ks, hks⟩ : ∃ k, k = KS := ⟨_, rfl⟩
  have hkl : ks.length = 64 := by rw [hks]; rfl
  rw [← hks] at HCK ⊢
  have HKL := Lib.hid hkl
  clear hks hkl
  go_enter Try.func48, Try.ntmps48
  go_wp2_with fail
  obtain ⟨wa, ha, hak, hab, has⟩ := alloc_cb w 78 (wds s.l)
  obtain ⟨wb, hb, hbs, hbb, hbz⟩ := alloc_cb wa 79 (bvs l)
  obtain ⟨wc, hc, hcr, hcb, hcz⟩ := alloc_cb wb 78 (wds (List.replicate 8 0))
  change Code.wp _ _ _ _ (((w.alloc (.cells (wds s.l).toArray 78)).alloc (.cells (bvs l).toArray 79)).alloc (.cells (wds (List.replicate 8 0)).toArray 78))
  rw [← ha, ← hb, ← hc]
  rw [has] at hbz hbs
  rw [hbz] at hcz hcr
  obtain ⟨N, hN⟩ : ∃ N, N = w.heap.size := ⟨_, rfl⟩
  have h1 : CB wc 78 w.heap.size (wds s.l) := (hak.fresh hbb).fresh hcb
  have h2 : CB wc 79 (w.heap.size + 1) (bvs l) := hbs.fresh hcb
  have hBc : Below w.heap.size w wc := (hab.trans (hbb.mono hab.size)).trans (hcb.mono (by omega))
  rw [← hN] at h1 h2 hcr hBc hcz ⊢
  have H1 := Lib.hid h1
  have H2 := Lib.hid h2
  have H3 := Lib.hid hcr
  have HBC := Lib.hid hBc
  have HZ := Lib.hid hcz
  have HN := Lib.hid hN
  clear ha hb hc hak hab has hbs hbb hbz hcr hcb hcz h1 h2 hBc hN
  have hS : PSt 78 N s wc.drew := H1.out
  refine pl_start 5 rfl (PSt 78 N s) (by kernel_rfl) ?_
  refine pl_take (i := 1) 6 rfl rfl rfl (by kernel_rfl) (by kernel_rfl) (by kernel_rfl) (by simp [Act.put]) hS ?_
  apply Exists.intro
  refine And.intro (fun w' hS' => ?_) ?_
  · refine wpList_load_agg rfl 78 (.tmp 2) rfl ⟨N, 0, none⟩ rfl (wds s.l) _ (CB.at hS').load Try.underlying78 rfl (by rw [wds_length]; exact infoW8) ?_
    go_wp2
    exact ⟨trivial, rfl⟩
  refine pl_take (i := 2) 7 rfl rfl rfl (by kernel_rfl) (by kernel_rfl) (by kernel_rfl) (by simp [Act.put]) hS ?_
  apply Exists.intro
  refine And.intro (fun w' hS' => ?_) ?_
  · clear hS'
    go_wp2
    exact ⟨trivial, rfl⟩
  refine pl_heavy (i := 0) rfl (by kernel_rfl) ?_
  go_wp2_with fail
  refine (HCK.out _).mono ?_
  rintro e w1 ⟨rfl, hb1⟩
  have hbx : Below wc.heap.size wc w1 := (Below.refl _ wc).drew.trans hb1
  have hS1 : PSt 78 N s w1 := H1.out.fresh hbx
  have HL1 : Hid (CB w1 79 (N + 1) (bvs l)) := Lib.hid (H2.out.fresh hbx)
  have HR1 : Hid (CB w1 78 (N + 1 + 1) (wds (List.replicate 8 0))) := Lib.hid (H3.out.fresh hbx)
  have HB1 : Hid (Below N w w1) := Lib.hid (HBC.out.trans (hbx.mono (by have := HZ.out; omega)))
  have hz1 : N + 1 + 1 + 1 ≤ w1.heap.size := by have := HZ.out; have := hbx.size; omega
  have HZ1 := Lib.hid hz1
  clear hb1 hbx hz1 hS
  go_wp2
  refine And.intro hS1 ?_
  refine pl_heavy (i := 3) rfl (by kernel_rfl) ?_
  have hrl : Rd w1 1 (.slice (some ⟨N + 1, 0, none⟩) 64 64) 64 (bvs l) := by
    have h1 := HL1.out.rdAll (by rw [bvs_length, hl]; decide)
    rw [bvs_length, hl] at h1
    exact h1
  have HRL := Lib.hid hrl
  clear hrl
  go_wp2_with fail
  refine (press_any w1 ks HKL.out s _ l hl HRL.out).mono ?_
  rintro e w2 ⟨rfl, hb2⟩
  have hS2 : PSt 78 N s w2 := CB.fresh hS1 hb2
  have HR2 := Lib.hid (HR1.out.fresh hb2)
  have HB2 := Lib.hid (HB1.out.trans (hb2.mono (by have := HZ1.out; omega)))
  obtain ⟨s', hs'⟩ : ∃ s', s' = pressS ks s l := ⟨_, rfl⟩
  rw [← hs']
  have HS' := Lib.hid hs'
  clear hs' hb2 hS1
  go_wp2
  refine And.intro hS2 ?_
  refine pl_heavy (i := 4) rfl (by kernel_rfl) ?_
  refine wpList_store_var rfl 78 (.tmp 4) (.tmp 8) rfl (N + 1 + 1) _ rfl _ (wds s'.l) rfl HR2.out (by simp [wds_length, St.l]) (wds_one _) (by rw [wds_length]; exact infoW8) ?_
  intro w3 hb3 ho3
  have hS3 : PSt 78 N s w3 := CB.only hS2 ho3 (by omega)
  have BZ := Below.only HB2.out ho3 (by omega)
  rw [HN.out] at BZ
  have HBL := Lib.hid BZ
  rw [HS'.out] at hb3
  have HBZ := Lib.hid hb3
  clear hb3 ho3 BZ hS2
  go_wp2
  refine And.intro hS3 ?_
  refine pl_done (by kernel_rfl) ?_
  go_wp2
  exact bodyPost_ret (results_cell1 rfl _ _ (N + 1 + 1) _ _ _ _ rfl HBZ.out Try.underlying78 rfl (by simp [St.l, wds_length, infoW8])) rfl ⟨rfl, HBL.out⟩
end Go.Proofs.Ytdljpgihfjpnjaa
