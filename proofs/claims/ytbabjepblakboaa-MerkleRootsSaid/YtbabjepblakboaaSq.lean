/- The constants and the start: the walks. -/
import Derived.Test.YtbabjepblakboaaSt
namespace Go.Proofs.Ytbabjepblakboaa
set_option linter.unusedVariables false
set_option linter.unusedSimpArgs false
open Go.RowKit Go.Lib

set_option maxRecDepth 100000 in
set_option maxHeartbeats 400000 in
theorem constants_any (w : World) :
    Calls Try.prog 158 #[] w fun e w' => e = .returned (.agg (wds KS).toArray) ∧ Below w.heap.size w w' := by
  have hLl : KS.length = 64 := rfl
  have hPl : (primes64.take 64).length = 64 := rfl
  have hPget : ∀ k, k < 64 → (primes64.take 64).getD k 0 < 1000 ∧ cubeW ((primes64.take 64).getD k 0) = KS.getD k 0 := by
    intro k hk
    have h1 := cubes_ok
    refine ⟨?_, ?_⟩
    · revert k; decide +kernel
    · rw [← h1]
      simp [List.getD_eq_getElem?_getD, hk, hPl]
      try (rw [List.getElem?_eq_getElem (by rw [show primes64.length = 64 from rfl]; omega)]; rfl)
  have CP := fun w0 => primes_any w0 64 310 (by rw [pr64]; rfl) (by omega)
  rw [pr64] at CP
  have HL := Lib.hid hLl
  have HG := Lib.hid hPget
  have CP := Lib.hid CP
  clear hLl hPl hPget
  obtain ⟨PL, hPL⟩ : ∃ l, l = primes64.take 64 := ⟨_, rfl⟩
  obtain ⟨L, hL⟩ : ∃ l, l = KS := ⟨_, rfl⟩
  rw [← hPL] at HG CP
  rw [← hL] at HG HL ⊢
  have hPl : PL.length = 64 := by rw [hPL]; rfl
  clear hPL hL
  have HPL := Lib.hid hPl; clear hPl
  go_enter Try.func158, Try.ntmps158
  go_wp2_with fail
  obtain ⟨wa, ha, hak, hab, has⟩ := alloc_cb w 201 (wds (List.replicate 64 0))
  change Calls _ _ _ (w.alloc (.cells (wds (List.replicate 64 0)).toArray 201)) _
  rw [← ha]
  clear ha
  refine (CP.out wa).mono ?_
  rintro e w1 ⟨v, rfl, hr, hown, hb⟩
  obtain ⟨N, hN⟩ : ∃ N, N = w.heap.size := ⟨_, rfl⟩
  rw [← hN] at hak hab has ⊢
  have hz := hak.fresh hb
  have hB1 : Below N w w1 := hab.trans (hb.mono (by omega))
  have hne : v.ownBlock ≠ some N := fun h => by have := hown N h; omega
  have HR := Lib.hid hr
  have HZ := Lib.hid hz
  have HB1 := Lib.hid hB1
  have HNE := Lib.hid hne
  have HN := Lib.hid hN
  clear hr hown hb hz hB1 hne hak hab has hN
  rcases HR.out.2 with ⟨_, h0⟩ | ⟨ad, c, hv, _, _, _⟩
  · omega
  subst hv
  go_wp2
  go_loopw [5] (fun v5 wr => ∃ m : Nat, m ≤ 64 ∧ v5 = .int .i64 (m : Int) ∧ CB wr 201 N (wds (L.take m ++ List.replicate (64 - m) 0)) ∧ Rd wr 1 (.slice (some ad) 64 c) 64 (ns PL) ∧ Below N w wr)
    (fun v _ => 64 - (intOf v).toNat)
  case atStart => exact ⟨0, by omega, rfl, by simpa using HZ.out, HR.out, HB1.out⟩
  case round =>
    clear HZ HR HB1
    obtain ⟨m, hm, rfl, h1, h2, h3⟩ := hrel
    have H1 := Lib.hid h1
    have H2 := Lib.hid h2
    have H3 := Lib.hid h3
    clear h1 h2 h3
    by_cases hlt : m < 64
    · rcases H2.out.2 with ⟨_, h0⟩ | ⟨ad', c', he, _, _, hcell⟩
      · omega
      simp only [Value.slice.injEq, true_and, Option.some.injEq] at he
      obtain ⟨rfl, rfl⟩ := he
      obtain ⟨q, hq⟩ : ∃ q, q = PL.getD m 0 := ⟨_, rfl⟩
      have fk : wr.cell? (ad.add m) = some (.int .u64 (q : Int)) := by
        rw [hq]
        exact hcell m _ (ns_get _ _ (by have := HPL.out; omega))
      have hqq := HG.out m hlt
      rw [← hq] at hqq
      have bk : (m : Int) < 64 := by omega
      have C := fun w0 => cube_any w0 q (by omega)
      rw [show BitVec.ofNat 32 (rootN (cuG q) 36) = L.getD m 0 from hqq.2] at C
      obtain ⟨x, hx⟩ : ∃ x, x = L.getD m 0 := ⟨_, rfl⟩
      rw [← hx] at C
      obtain ⟨X, hX⟩ : ∃ n, n = x.toNat := ⟨_, rfl⟩
      unfold wd at C
      rw [← hX] at C
      have hl0 : (L.take m).length = m := by rw [List.length_take]; have := HL.out; omega
      have CC := Lib.hid C
      have E := Lib.hid (And.intro hx (And.intro hX hl0))
      clear hcell hqq C hx hX hq hl0
      rename World => wO
      go_wp2_with fail
      refine (CC.out _).mono ?_
      rintro e w2 ⟨rfl, hb2⟩
      have h1 := H1.out.fresh hb2
      have h2 := H2.out.fresh hb2
      have h3 := H3.out.trans (hb2.mono (by have := H3.out.size; have := HN.out; omega))
      have fc := h1.cell m (wd 0) (wds_zero _ _ _ (by rw [E.out.2.2]; omega) (by rw [E.out.2.2]; omega))
      have ff := h1.free m
      unfold wd at fc
      have K1 := Lib.hid h1
      have K2 := Lib.hid h2
      have K3 := Lib.hid h3
      clear h1 h2 h3 hb2
      go_wp2
      go_roundw
      case rel =>
        refine ⟨m + 1, by omega, by go_num, ?_, K2.out.setCell HNE.out _, K3.out.setCell (Nat.le_refl _) _⟩
        have h1 := K1.out.set m (wd x)
        rw [wds_set, show 64 - m = (64 - (m + 1)) + 1 by omega] at h1
        have h2 := set_next (L.take m) (64 - (m + 1)) x
        rw [E.out.2.2] at h2
        rw [h2] at h1
        have h4 : L.take m ++ [x] = L.take (m + 1) := by
          rw [E.out.1, List.take_add_one]
          have : m < L.length := by rw [HL.out]; exact hlt
          simp [List.getD_eq_getElem?_getD, this]
        rw [h4] at h1
        rw [E.out.2.1]
        exact h1
      case measure =>
        simp only [intOf]
        omega
    · have hm64 : m = 64 := by omega
      have h1 := H1.out
      rw [hm64, List.take_of_length_le (by rw [HL.out]; exact Nat.le_refl _), Nat.sub_self, List.replicate_zero, List.append_nil] at h1
      have K1 := Lib.hid h1
      have HM := Lib.hid hm64
      clear h1 hm64 H1 H2
      go_wp2_with (with_reducible refine stopAt 15 ?_)
      refine Stop.go ?_
      refine wpList_load_agg rfl 201 (.tmp 0) rfl ⟨N, 0, none⟩ rfl (wds L) _ K1.out.at.load Try.underlying201 rfl (by rw [wds_length, HL.out]; exact infoW64) ?_
      go_wp2_with (with_reducible refine stopStore 201 ?_)
      refine Stop.go ?_
      refine wpList_store_var rfl 201 (.tmp 0) (.tmp 15) rfl N _ rfl _ (wds L) rfl K1.out (by simp [wds_length]) (wds_one _) (by rw [wds_length, HL.out]; exact infoW64) ?_
      intro w9 hb9 ho9
      have B9 : Below N w w9 := Below.only H3.out ho9 (Nat.le_refl _)
      rw [HN.out] at B9
      have HB9 := Lib.hid hb9
      have HBL := Lib.hid B9
      clear hb9 ho9 B9
      go_wp2
      exact bodyPost_ret (results_cell1 rfl _ _ N _ _ _ _ rfl HB9.out Try.underlying201 rfl (by simp [wds_length, HL.out, infoW64])) rfl ⟨rfl, HBL.out⟩

set_option maxRecDepth 100000 in
set_option maxHeartbeats 400000 in
theorem start_any (w : World) :
    Calls Try.prog 159 #[] w fun e w' => e = .returned (.agg (wds S0.l).toArray) ∧ Below w.heap.size w w' := by
  have hLl : S0.l.length = 8 := rfl
  have hPl : (primes64.take 8).length = 8 := rfl
  have hPget : ∀ k, k < 8 → (primes64.take 8).getD k 0 < 1000 ∧ squareW ((primes64.take 8).getD k 0) = S0.l.getD k 0 := by
    intro k hk
    have h1 := squares_ok
    refine ⟨?_, ?_⟩
    · revert k; decide +kernel
    · rw [← h1]
      simp [List.getD_eq_getElem?_getD, hk, hPl]
      try (rw [List.getElem?_eq_getElem (by rw [show primes64.length = 64 from rfl]; omega)]; rfl)
  have CP := fun w0 => primes_any w0 8 18 (by rw [pr8]; rfl) (by omega)
  rw [pr8] at CP
  have HL := Lib.hid hLl
  have HG := Lib.hid hPget
  have CP := Lib.hid CP
  clear hLl hPl hPget
  obtain ⟨PL, hPL⟩ : ∃ l, l = primes64.take 8 := ⟨_, rfl⟩
  obtain ⟨L, hL⟩ : ∃ l, l = S0.l := ⟨_, rfl⟩
  rw [← hPL] at HG CP
  rw [← hL] at HG HL ⊢
  have hPl : PL.length = 8 := by rw [hPL]; rfl
  clear hPL hL
  have HPL := Lib.hid hPl; clear hPl
  go_enter Try.func159, Try.ntmps159
  go_wp2_with fail
  obtain ⟨wa, ha, hak, hab, has⟩ := alloc_cb w 169 (wds (List.replicate 8 0))
  change Calls _ _ _ (w.alloc (.cells (wds (List.replicate 8 0)).toArray 169)) _
  rw [← ha]
  clear ha
  refine (CP.out wa).mono ?_
  rintro e w1 ⟨v, rfl, hr, hown, hb⟩
  obtain ⟨N, hN⟩ : ∃ N, N = w.heap.size := ⟨_, rfl⟩
  rw [← hN] at hak hab has ⊢
  have hz := hak.fresh hb
  have hB1 : Below N w w1 := hab.trans (hb.mono (by omega))
  have hne : v.ownBlock ≠ some N := fun h => by have := hown N h; omega
  have HR := Lib.hid hr
  have HZ := Lib.hid hz
  have HB1 := Lib.hid hB1
  have HNE := Lib.hid hne
  have HN := Lib.hid hN
  clear hr hown hb hz hB1 hne hak hab has hN
  rcases HR.out.2 with ⟨_, h0⟩ | ⟨ad, c, hv, _, _, _⟩
  · omega
  subst hv
  go_wp2
  go_loopw [5] (fun v5 wr => ∃ m : Nat, m ≤ 8 ∧ v5 = .int .i64 (m : Int) ∧ CB wr 169 N (wds (L.take m ++ List.replicate (8 - m) 0)) ∧ Rd wr 1 (.slice (some ad) 8 c) 8 (ns PL) ∧ Below N w wr)
    (fun v _ => 8 - (intOf v).toNat)
  case atStart => exact ⟨0, by omega, rfl, by simpa using HZ.out, HR.out, HB1.out⟩
  case round =>
    clear HZ HR HB1
    obtain ⟨m, hm, rfl, h1, h2, h3⟩ := hrel
    have H1 := Lib.hid h1
    have H2 := Lib.hid h2
    have H3 := Lib.hid h3
    clear h1 h2 h3
    by_cases hlt : m < 8
    · rcases H2.out.2 with ⟨_, h0⟩ | ⟨ad', c', he, _, _, hcell⟩
      · omega
      simp only [Value.slice.injEq, true_and, Option.some.injEq] at he
      obtain ⟨rfl, rfl⟩ := he
      obtain ⟨q, hq⟩ : ∃ q, q = PL.getD m 0 := ⟨_, rfl⟩
      have fk : wr.cell? (ad.add m) = some (.int .u64 (q : Int)) := by
        rw [hq]
        exact hcell m _ (ns_get _ _ (by have := HPL.out; omega))
      have hqq := HG.out m hlt
      rw [← hq] at hqq
      have bk : (m : Int) < 8 := by omega
      have C := fun w0 => square_any w0 q 
      rw [show BitVec.ofNat 32 (rootN (sqG q) 36) = L.getD m 0 from hqq.2] at C
      obtain ⟨x, hx⟩ : ∃ x, x = L.getD m 0 := ⟨_, rfl⟩
      rw [← hx] at C
      obtain ⟨X, hX⟩ : ∃ n, n = x.toNat := ⟨_, rfl⟩
      unfold wd at C
      rw [← hX] at C
      have hl0 : (L.take m).length = m := by rw [List.length_take]; have := HL.out; omega
      have CC := Lib.hid C
      have E := Lib.hid (And.intro hx (And.intro hX hl0))
      clear hcell hqq C hx hX hq hl0
      rename World => wO
      go_wp2_with fail
      refine (CC.out _).mono ?_
      rintro e w2 ⟨rfl, hb2⟩
      have h1 := H1.out.fresh hb2
      have h2 := H2.out.fresh hb2
      have h3 := H3.out.trans (hb2.mono (by have := H3.out.size; have := HN.out; omega))
      have fc := h1.cell m (wd 0) (wds_zero _ _ _ (by rw [E.out.2.2]; omega) (by rw [E.out.2.2]; omega))
      have ff := h1.free m
      unfold wd at fc
      have K1 := Lib.hid h1
      have K2 := Lib.hid h2
      have K3 := Lib.hid h3
      clear h1 h2 h3 hb2
      go_wp2
      go_roundw
      case rel =>
        refine ⟨m + 1, by omega, by go_num, ?_, K2.out.setCell HNE.out _, K3.out.setCell (Nat.le_refl _) _⟩
        have h1 := K1.out.set m (wd x)
        rw [wds_set, show 8 - m = (8 - (m + 1)) + 1 by omega] at h1
        have h2 := set_next (L.take m) (8 - (m + 1)) x
        rw [E.out.2.2] at h2
        rw [h2] at h1
        have h4 : L.take m ++ [x] = L.take (m + 1) := by
          rw [E.out.1, List.take_add_one]
          have : m < L.length := by rw [HL.out]; exact hlt
          simp [List.getD_eq_getElem?_getD, this]
        rw [h4] at h1
        rw [E.out.2.1]
        exact h1
      case measure =>
        simp only [intOf]
        omega
    · have hm64 : m = 8 := by omega
      have h1 := H1.out
      rw [hm64, List.take_of_length_le (by rw [HL.out]; exact Nat.le_refl _), Nat.sub_self, List.replicate_zero, List.append_nil] at h1
      have K1 := Lib.hid h1
      have HM := Lib.hid hm64
      clear h1 hm64 H1 H2
      go_wp2_with (with_reducible refine stopAt 15 ?_)
      refine Stop.go ?_
      refine wpList_load_agg rfl 169 (.tmp 0) rfl ⟨N, 0, none⟩ rfl (wds L) _ K1.out.at.load Try.underlying169 rfl (by rw [wds_length, HL.out]; exact infoW8) ?_
      go_wp2_with (with_reducible refine stopStore 169 ?_)
      refine Stop.go ?_
      refine wpList_store_var rfl 169 (.tmp 0) (.tmp 15) rfl N _ rfl _ (wds L) rfl K1.out (by simp [wds_length]) (wds_one _) (by rw [wds_length, HL.out]; exact infoW8) ?_
      intro w9 hb9 ho9
      have B9 : Below N w w9 := Below.only H3.out ho9 (Nat.le_refl _)
      rw [HN.out] at B9
      have HB9 := Lib.hid hb9
      have HBL := Lib.hid B9
      clear hb9 ho9 B9
      go_wp2
      exact bodyPost_ret (results_cell1 rfl _ _ N _ _ _ _ rfl HB9.out Try.underlying169 rfl (by simp [wds_length, HL.out, infoW8])) rfl ⟨rfl, HBL.out⟩

end Go.Proofs.Ytbabjepblakboaa
