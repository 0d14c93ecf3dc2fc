/- The hash under a name, the program's own and the chapter's; parts joined: the walks. -/
import Derived.Test.YtbabjepblakboaaSy
namespace Go.Proofs.Ytbabjepblakboaa
set_option linter.unusedVariables false
set_option linter.unusedSimpArgs false
open Go.RowKit Go.Lib

theorem infoSl : (Try.prog.info? 42).map (fun i => (i.zero, i.size, i.bytes)) = some (some (.slice none 0 0), 1, 24) := by kernel_rfl

theorem Pts.one_cell {w : World} {L : List (List UInt8)} {vs : List Value} {n : Nat} {v : Value} (hr : Rd w 1 v n vs) (hn : n = L.length) (h : ∀ (i : Nat) (x : List UInt8), L[i]? = some x → ∃ u, vs[i]? = some u ∧ Rd w 1 u x.length (bvs x)) : ∀ u ∈ vs, u.oneCell' = true := by
  intro u hu
  obtain ⟨i, hi, rfl⟩ := List.getElem_of_mem hu
  have hl : vs.length = n := by have := hr.1; simpa using this
  have hx : L[i]? = some (L[i]'(by omega)) := List.getElem?_eq_getElem (by omega)
  obtain ⟨u', hu', hr'⟩ := h i _ hx
  rw [List.getElem?_eq_getElem hi] at hu'
  cases hu'
  obtain ⟨a, c, he⟩ := hr'.slice
  rw [he]; rfl

set_option maxRecDepth 100000 in
theorem tag_any (w : World) (v : Value) (s : List UInt8) (L : List (List UInt8)) (hp : Pts w v L) (hL : L.length ≤ 100000) (hm : L.flatten.length ≤ 10000000) (hs : s.length ≤ 1000000) :
    Calls Try.prog 141 #[.string ⟨s.toArray⟩, v] w fun e w' => e = .returned (.agg (bvs (shaB (textB s L.flatten))).toArray) ∧ Below w.heap.size w w' := by
  obtain ⟨i0, hi, hi0, hi1, hi2⟩ := info_parts infoU8
  obtain ⟨j0, hj, hj0, hj1, hj2⟩ := info_parts infoSl
  have hT : (⟨s.toArray⟩ : ByteArray).size = s.length := by simp [ByteArray.size]
  obtain ⟨a0, c0, rfl⟩ := hp.slice
  have HP := Lib.hid hp; clear hp
  have HLL := Lib.hid (And.intro hL hm)
  obtain ⟨L0, hL0⟩ : ∃ x : UInt8, x = UInt8.ofNat (s.take 255).length := ⟨_, rfl⟩
  obtain ⟨N, hN⟩ : ∃ N, N = s.take 255 := ⟨_, rfl⟩
  have htx : textB s L.flatten = (L0 :: N) ++ L.flatten := by rw [hL0, hN]; rfl
  obtain ⟨Z, hZ⟩ : ∃ Z, Z = shaB (textB s L.flatten) := ⟨_, rfl⟩
  have hZl : Z.length = 32 := by rw [hZ]; exact shaB_length _
  have hfl : ((L0 :: N) :: L).flatten = textB s L.flatten := by rw [htx]; simp
  have HNl : Hid (N.length ≤ 255) := Lib.hid (by rw [hN, List.length_take]; omega)
  have CS : ∀ (w0 : World) (v0 : Value), Pts w0 v0 ((L0 :: N) :: L) → Calls Try.prog 155 #[v0] w0 fun e w' => e = .returned (.agg (bvs Z).toArray) ∧ Below w0.heap.size w0 w' := by
    intro w0 v0 hp0
    have h1 := sum_any w0 v0 _ hp0 (by rw [List.length_cons]; omega) (by have := HNl.out; rw [List.flatten_cons, List.length_append, List.length_cons]; omega)
    rw [hfl, ← hZ] at h1
    exact h1
  have HCS := Lib.hid CS
  have HZ := Lib.hid (And.intro hZ hZl)
  clear htx hZ hZl hfl CS hL hm
  obtain ⟨n, hn⟩ : ∃ n, n = L.length := ⟨_, rfl⟩
  rw [← hn] at HP HLL ⊢
  have HN := Lib.hid hn
  clear hn
  by_cases h255 : s.length ≤ 255
  · have hN' : N = s := by rw [hN, List.take_of_length_le h255]
    have h0 : strCells ((⟨s.toArray⟩ : ByteArray).extract 0 s.length) = bvs N := by rw [str_take, List.take_of_length_le (Nat.le_refl _), hN']
    obtain ⟨z, hz⟩ : ∃ z, z = s.length := ⟨_, rfl⟩
    rw [← hz] at h0 hT h255
    obtain ⟨TT, hTT⟩ : ∃ t, t = (⟨s.toArray⟩ : ByteArray).extract 0 z := ⟨_, rfl⟩
    have hsz : TT.size = z := by rw [hTT, ByteArray.size_extract, hT]; omega
    rw [← hTT] at h0
    have hlb : Value.int .u8 (z : Int) = bv L0 := by
      rw [hL0, List.length_take, bv_ofNat, ← hz]
      congr 1
      omega
    have HTT := Lib.hid (And.intro h0 (show TT.size ≤ 255 by omega))
    have HLB := Lib.hid hlb
    have hle : (z : Int) ≤ 255 := by omega
    have hz' : IntKind.u8.wrap (z : Int) = (z : Int) := by rw [IntKind.wrap_u8']; omega
    clear h0 hlb hL0 hN hN' hz hs
    generalize (⟨s.toArray⟩ : ByteArray) = T at *
    have htt' : T.extract 0 z = TT := hTT.symm
    clear hTT
    go_enter Try.func141, Try.ntmps141
    go_wp2_with (at_builtin; apply Stop.mk)
    refine Stop.go ?_
    rw [HLB.out]
    obtain ⟨wo, hwo, hok, hob, hoz⟩ := alloc_cb w 24 (bvs (List.replicate 32 0))
    obtain ⟨wa, hwa, hza, hba, hoa⟩ : ∃ wa, wa = wo.alloc (.cells #[bv L0] 5) ∧ wa.heap.size = wo.heap.size + 1 ∧ Below wo.heap.size wo wa ∧ wa.ownsRow wo.heap.size 5 1 (.slice (some ⟨wo.heap.size, 0, none⟩) 1 1) 1 (bvs [L0]) :=
      ⟨_, rfl, Array.size_push _, (Below.refl _ wo).alloc (Nat.le_refl _) _, own_one wo _ _ _ (Nat.le_refl _)⟩
    change wpList _ _ _ _ _ ((w.alloc (.cells (bvs (List.replicate 32 0)).toArray 24)).alloc (.cells #[bv L0] 5))
    rw [← hwo, ← hwa]
    clear hwo hwa
    obtain ⟨O, hO⟩ : ∃ O, O = w.heap.size := ⟨_, rfl⟩
    have hpa := (HP.out.fresh hob).fresh hba
    rw [← hO] at hok hob hoz ⊢
    rw [hoz] at hza hba hoa
    have hka := hok.below hba (by omega)
    have hBa : Below O w wa := hob.trans (hba.mono (by omega))
    refine wpList_append_str _ rfl (.tmp 13) (.tmp 14) 42 9 rfl (O + 1) 5 i0 Try.underlying42 Try.underlying9 hi hi0 hi1 hi2 (.slice (some ⟨O + 1, 0, none⟩) 1 1) 1 _ rfl hoa TT rfl (by have := HTT.out.2; omega) (by omega) ?_
    intro v1 w1 hown hgr
    have hs1 : wa.heap.size ≤ w1.heap.size := hgr.size
    have hb1 : Below (O + 1) wa w1 := (Below.refl _ wa).grown hgr (by omega) (by simp [Value.ownBlock])
    have hp1 : Pts w1 (.slice a0 n c0) L := by
      obtain ⟨vs, h1, h2⟩ := HP.out
      have hBw : Below w.heap.size w w1 := by rw [← hO]; exact hBa.trans (hb1.mono (by omega))
      exact Pts.fresh HP.out hBw
    rw [HTT.out.1] at hown
    have hown2 : w1.ownsRow (O + 1) 5 1 v1 (1 + TT.size) (bvs (L0 :: N)) := hown
    obtain ⟨a1, c1, rfl⟩ := own_slice hown2
    have hr1 := Rd.of_own hown2
    have hl1 : (L0 :: N).length = 1 + TT.size := by have := hr1.1; simpa using this
    have hk1 := hka.below hb1 (by omega)
    have hB1 : Below O w w1 := hBa.trans (hb1.mono (by omega))
    have HR1 := Lib.hid hr1
    have HP1 := Lib.hid hp1
    have HK1 := Lib.hid hk1
    have HB1 := Lib.hid hB1
    have HL1 := Lib.hid hl1
    have hz1 : O + 1 ≤ w1.heap.size := by omega
    have HO := Lib.hid hO
    clear hown hown2 hgr hb1 hr1 hp1 hk1 hB1 hl1 hka hBa hpa hok hob hoz hza hba hoa hO
    obtain ⟨K, hK⟩ : ∃ K, K = 1 + TT.size := ⟨_, rfl⟩
    rw [← hK] at HR1 HL1 ⊢
    have HK := Lib.hid hK
    clear hK
    go_wp2_with (at_builtin; apply Stop.mk)
    refine Stop.go ?_
    obtain ⟨wb, hwb, hzb, hbb, hob⟩ : ∃ wb, wb = w1.alloc (.cells #[.slice a1 K c1] 42) ∧ wb.heap.size = w1.heap.size + 1 ∧ Below w1.heap.size w1 wb ∧ wb.ownsRow (O + 1) 42 1 (.slice (some ⟨w1.heap.size, 0, none⟩) 1 1) 1 [.slice a1 K c1] :=
      ⟨_, rfl, Array.size_push _, (Below.refl _ w1).alloc (Nat.le_refl _) _, own_one w1 _ _ _ hz1⟩
    change wpList _ _ _ _ _ (w1.alloc (.cells #[.slice a1 K c1] 42))
    rw [← hwb]
    clear hwb
    obtain ⟨vs, hvr0, hvx⟩ := HP.out
    have hBw1 : Below w.heap.size w w1 := by rw [← HO.out]; exact HB1.out
    have hvr := (hvr0.fresh hBw1).fresh hbb
    have hone := Pts.one_cell hvr0 rfl hvx
    refine wpList_append_rd _ rfl (.tmp 16) (.tmp 17) 210 rfl (O + 1) 42 j0 (.slice none 0 0) 1 24 Try.underlying210 hj hj0 hj1 hj2 rfl (by decide) (.slice (some ⟨w1.heap.size, 0, none⟩) 1 1) 1 _ rfl hob (.slice a0 n c0) n vs rfl (by rw [← HN.out] at hvr; exact hvr) hone (by unfold maxLen; have := HLL.out; omega) (by have := HLL.out; omega) (by omega) ?_
    intro v2 w2 hown2 hgr2 _ hgrew
    have hb2 : Below w1.heap.size w1 w2 := Below.grown hbb hgr2 (by omega) (by simp [Value.ownBlock])
    have hBw2 : Below w.heap.size w w2 := hBw1.trans (hb2.mono hBw1.size)
    have hp2 : Pts w2 v2 ((L0 :: N) :: L) := by
      have h1 := Rd.of_own hown2
      have hr2 := HR1.out.fresh hb2
      have h5 : ((L0 :: N) :: L).length = 1 + n := by rw [List.length_cons, HN.out]; omega
      refine ⟨[.slice a1 K c1] ++ vs, by rw [h5]; exact h1, fun i x hx => ?_⟩
      rcases i with _ | i
      · simp only [List.getElem?_cons_zero, Option.some.injEq] at hx
        subst hx
        refine ⟨_, rfl, ?_⟩
        rw [HL1.out]
        exact hr2
      · rw [List.getElem?_cons_succ] at hx
        obtain ⟨u, hu, hru⟩ := hvx i x hx
        exact ⟨u, by simpa using hu, hru.fresh hBw2⟩
    have hk2 := HK1.out.below (hb2.mono hz1) (by omega)
    have hB2 : Below O w w2 := HB1.out.trans (hb2.mono (by omega))
    obtain ⟨a2, c2, rfl⟩ := hp2.slice
    have HP2 := Lib.hid hp2
    have HK2 := Lib.hid hk2
    have HB2 := Lib.hid hB2
    clear hvr0 hvx hBw1 hvr hone hown2 hgr2 hgrew hb2 hBw2 hp2 hk2 hB2 hob hzb hbb
    go_wp2_with fail
    refine (HCS.out _ _ HP2.out).mono ?_
    rintro e w3 ⟨rfl, hb3⟩
    have hk3 := HK2.out.fresh hb3
    have hB3 : Below O w w3 := HB2.out.trans (hb3.mono (by have := HB2.out.size; have := HO.out; omega))
    have HK3 := Lib.hid hk3
    have HB3 := Lib.hid hB3
    clear hb3 hk3 hB3
    go_wp2_with (with_reducible refine stopStore 24 ?_)
    refine Stop.go ?_
    refine wpList_store_var rfl 24 (.tmp 4) (.tmp 19) rfl O _ rfl _ (bvs Z) rfl HK3.out (by simp [HZ.out.2]) (bvs_one _) (by rw [bvs_length, HZ.out.2]; exact infoHash) ?_
    intro w4 hb4 ho4
    have BZ := Below.only HB3.out ho4 (Nat.le_refl _)
    rw [HO.out] at BZ
    have HBZ := Lib.hid hb4
    have HBL := Lib.hid BZ
    clear hb4 ho4 BZ
    go_wp2
    exact bodyPost_ret (results_cell1 rfl _ _ O _ _ _ _ rfl HBZ.out Try.underlying24 rfl (by simp [HZ.out.2, infoHash])) rfl ⟨by rw [HZ.out.1], HBL.out⟩
  · have h0 := str_take s 255
    rw [← hN] at h0
    obtain ⟨z, hz⟩ : ∃ z, z = s.length := ⟨_, rfl⟩
    rw [← hz] at hT h255
    obtain ⟨TT, hTT⟩ : ∃ t, t = (⟨s.toArray⟩ : ByteArray).extract 0 255 := ⟨_, rfl⟩
    have hsz : TT.size = 255 := by rw [hTT, ByteArray.size_extract, hT]; omega
    rw [← hTT] at h0
    have hlb : Value.int .u8 255 = bv L0 := by
      rw [hL0, List.length_take, bv_ofNat, ← hz, show min 255 z = 255 by omega]
      rfl
    have HTT := Lib.hid (And.intro h0 (show TT.size ≤ 255 by omega))
    have HLB := Lib.hid hlb
    have hle : (255 : Int) ≤ (z : Int) := by omega
    have hle2 : ¬ ((z : Int) ≤ 255) := by omega
    clear h0 hlb hL0 hN hz hs
    generalize (⟨s.toArray⟩ : ByteArray) = T at *
    have htt' : T.extract 0 255 = TT := hTT.symm
    clear hTT
    go_enter Try.func141, Try.ntmps141
    go_wp2_with (at_builtin; apply Stop.mk)
    refine Stop.go ?_
    rw [HLB.out]
    obtain ⟨wo, hwo, hok, hob, hoz⟩ := alloc_cb w 24 (bvs (List.replicate 32 0))
    obtain ⟨wa, hwa, hza, hba, hoa⟩ : ∃ wa, wa = wo.alloc (.cells #[bv L0] 5) ∧ wa.heap.size = wo.heap.size + 1 ∧ Below wo.heap.size wo wa ∧ wa.ownsRow wo.heap.size 5 1 (.slice (some ⟨wo.heap.size, 0, none⟩) 1 1) 1 (bvs [L0]) :=
      ⟨_, rfl, Array.size_push _, (Below.refl _ wo).alloc (Nat.le_refl _) _, own_one wo _ _ _ (Nat.le_refl _)⟩
    change wpList _ _ _ _ _ ((w.alloc (.cells (bvs (List.replicate 32 0)).toArray 24)).alloc (.cells #[bv L0] 5))
    rw [← hwo, ← hwa]
    clear hwo hwa
    obtain ⟨O, hO⟩ : ∃ O, O = w.heap.size := ⟨_, rfl⟩
    have hpa := (HP.out.fresh hob).fresh hba
    rw [← hO] at hok hob hoz ⊢
    rw [hoz] at hza hba hoa
    have hka := hok.below hba (by omega)
    have hBa : Below O w wa := hob.trans (hba.mono (by omega))
    refine wpList_append_str _ rfl (.tmp 13) (.tmp 14) 42 9 rfl (O + 1) 5 i0 Try.underlying42 Try.underlying9 hi hi0 hi1 hi2 (.slice (some ⟨O + 1, 0, none⟩) 1 1) 1 _ rfl hoa TT rfl (by have := HTT.out.2; omega) (by omega) ?_
    intro v1 w1 hown hgr
    have hs1 : wa.heap.size ≤ w1.heap.size := hgr.size
    have hb1 : Below (O + 1) wa w1 := (Below.refl _ wa).grown hgr (by omega) (by simp [Value.ownBlock])
    have hp1 : Pts w1 (.slice a0 n c0) L := by
      obtain ⟨vs, h1, h2⟩ := HP.out
      have hBw : Below w.heap.size w w1 := by rw [← hO]; exact hBa.trans (hb1.mono (by omega))
      exact Pts.fresh HP.out hBw
    rw [HTT.out.1] at hown
    have hown2 : w1.ownsRow (O + 1) 5 1 v1 (1 + TT.size) (bvs (L0 :: N)) := hown
    obtain ⟨a1, c1, rfl⟩ := own_slice hown2
    have hr1 := Rd.of_own hown2
    have hl1 : (L0 :: N).length = 1 + TT.size := by have := hr1.1; simpa using this
    have hk1 := hka.below hb1 (by omega)
    have hB1 : Below O w w1 := hBa.trans (hb1.mono (by omega))
    have HR1 := Lib.hid hr1
    have HP1 := Lib.hid hp1
    have HK1 := Lib.hid hk1
    have HB1 := Lib.hid hB1
    have HL1 := Lib.hid hl1
    have hz1 : O + 1 ≤ w1.heap.size := by omega
    have HO := Lib.hid hO
    clear hown hown2 hgr hb1 hr1 hp1 hk1 hB1 hl1 hka hBa hpa hok hob hoz hza hba hoa hO
    obtain ⟨K, hK⟩ : ∃ K, K = 1 + TT.size := ⟨_, rfl⟩
    rw [← hK] at HR1 HL1 ⊢
    have HK := Lib.hid hK
    clear hK
    go_wp2_with (at_builtin; apply Stop.mk)
    refine Stop.go ?_
    obtain ⟨wb, hwb, hzb, hbb, hob⟩ : ∃ wb, wb = w1.alloc (.cells #[.slice a1 K c1] 42) ∧ wb.heap.size = w1.heap.size + 1 ∧ Below w1.heap.size w1 wb ∧ wb.ownsRow (O + 1) 42 1 (.slice (some ⟨w1.heap.size, 0, none⟩) 1 1) 1 [.slice a1 K c1] :=
      ⟨_, rfl, Array.size_push _, (Below.refl _ w1).alloc (Nat.le_refl _) _, own_one w1 _ _ _ hz1⟩
    change wpList _ _ _ _ _ (w1.alloc (.cells #[.slice a1 K c1] 42))
    rw [← hwb]
    clear hwb
    obtain ⟨vs, hvr0, hvx⟩ := HP.out
    have hBw1 : Below w.heap.size w w1 := by rw [← HO.out]; exact HB1.out
    have hvr := (hvr0.fresh hBw1).fresh hbb
    have hone := Pts.one_cell hvr0 rfl hvx
    refine wpList_append_rd _ rfl (.tmp 16) (.tmp 17) 210 rfl (O + 1) 42 j0 (.slice none 0 0) 1 24 Try.underlying210 hj hj0 hj1 hj2 rfl (by decide) (.slice (some ⟨w1.heap.size, 0, none⟩) 1 1) 1 _ rfl hob (.slice a0 n c0) n vs rfl (by rw [← HN.out] at hvr; exact hvr) hone (by unfold maxLen; have := HLL.out; omega) (by have := HLL.out; omega) (by omega) ?_
    intro v2 w2 hown2 hgr2 _ hgrew
    have hb2 : Below w1.heap.size w1 w2 := Below.grown hbb hgr2 (by omega) (by simp [Value.ownBlock])
    have hBw2 : Below w.heap.size w w2 := hBw1.trans (hb2.mono hBw1.size)
    have hp2 : Pts w2 v2 ((L0 :: N) :: L) := by
      have h1 := Rd.of_own hown2
      have hr2 := HR1.out.fresh hb2
      have h5 : ((L0 :: N) :: L).length = 1 + n := by rw [List.length_cons, HN.out]; omega
      refine ⟨[.slice a1 K c1] ++ vs, by rw [h5]; exact h1, fun i x hx => ?_⟩
      rcases i with _ | i
      · simp only [List.getElem?_cons_zero, Option.some.injEq] at hx
        subst hx
        refine ⟨_, rfl, ?_⟩
        rw [HL1.out]
        exact hr2
      · rw [List.getElem?_cons_succ] at hx
        obtain ⟨u, hu, hru⟩ := hvx i x hx
        exact ⟨u, by simpa using hu, hru.fresh hBw2⟩
    have hk2 := HK1.out.below (hb2.mono hz1) (by omega)
    have hB2 : Below O w w2 := HB1.out.trans (hb2.mono (by omega))
    obtain ⟨a2, c2, rfl⟩ := hp2.slice
    have HP2 := Lib.hid hp2
    have HK2 := Lib.hid hk2
    have HB2 := Lib.hid hB2
    clear hvr0 hvx hBw1 hvr hone hown2 hgr2 hgrew hb2 hBw2 hp2 hk2 hB2 hob hzb hbb
    go_wp2_with fail
    refine (HCS.out _ _ HP2.out).mono ?_
    rintro e w3 ⟨rfl, hb3⟩
    have hk3 := HK2.out.fresh hb3
    have hB3 : Below O w w3 := HB2.out.trans (hb3.mono (by have := HB2.out.size; have := HO.out; omega))
    have HK3 := Lib.hid hk3
    have HB3 := Lib.hid hB3
    clear hb3 hk3 hB3
    go_wp2_with (with_reducible refine stopStore 24 ?_)
    refine Stop.go ?_
    refine wpList_store_var rfl 24 (.tmp 4) (.tmp 19) rfl O _ rfl _ (bvs Z) rfl HK3.out (by simp [HZ.out.2]) (bvs_one _) (by rw [bvs_length, HZ.out.2]; exact infoHash) ?_
    intro w4 hb4 ho4
    have BZ := Below.only HB3.out ho4 (Nat.le_refl _)
    rw [HO.out] at BZ
    have HBZ := Lib.hid hb4
    have HBL := Lib.hid BZ
    clear hb4 ho4 BZ
    go_wp2
    exact bodyPost_ret (results_cell1 rfl _ _ O _ _ _ _ rfl HBZ.out Try.underlying24 rfl (by simp [HZ.out.2, infoHash])) rfl ⟨by rw [HZ.out.1], HBL.out⟩

set_option maxRecDepth 100000 in
theorem rtag_any (w : World) (v : Value) (s m : List UInt8) (hr : Rd w 1 v m.length (bvs m)) (hm : m.length ≤ 10000000) (hs : s.length ≤ 1000000) :
    Calls Try.prog 140 #[.string ⟨s.toArray⟩, v] w fun e w' => e = .returned (.agg (bvs (shaB (textB s m))).toArray) ∧ Below w.heap.size w w' := by
  have C1 := fun w0 hr0 => text_any w0 v s m hr0 (by omega) hs
  obtain ⟨X, hX⟩ : ∃ X, X = textB s m := ⟨_, rfl⟩
  rw [← hX] at C1 ⊢
  have hXl : X.length ≤ 20000000 := by rw [hX]; simp only [textB, List.length_cons, List.length_append, List.length_take]; omega
  obtain ⟨Z, hZ⟩ : ∃ Z, Z = shaB X := ⟨_, rfl⟩
  have hZl : Z.length = 32 := by rw [hZ]; exact shaB_length _
  have C2 : ∀ (w0 : World) (v0 : Value), Rd w0 1 v0 X.length (bvs X) → Calls Try.prog 61 #[v0] w0 fun e w' => e = .returned (.agg (bvs Z).toArray) ∧ Below w0.heap.size w0 w' := by
    intro w0 v0 h0
    have h1 := rsum_any w0 v0 X h0 (by omega)
    rw [← hZ] at h1
    exact h1
  obtain ⟨a0, c0, rfl⟩ := hr.slice
  have HR := Lib.hid hr
  have HC1 := Lib.hid C1
  have HC2 := Lib.hid C2
  have HZ := Lib.hid (And.intro hZ hZl)
  clear hr C1 C2 hZ hZl hX hXl
  generalize (⟨s.toArray⟩ : ByteArray) = T at *
  go_enter Try.func140, Try.ntmps140
  go_wp2_with fail
  obtain ⟨wo, hwo, hok, hob, hoz⟩ := alloc_cb w 24 (bvs (List.replicate 32 0))
  change Calls _ _ _ (w.alloc (.cells (bvs (List.replicate 32 0)).toArray 24)) _
  rw [← hwo]
  clear hwo
  refine (HC1.out wo (HR.out.fresh hob)).mono ?_
  rintro e w1 ⟨v', rfl, hr1, hb1⟩
  have hk1 := hok.fresh hb1
  have hB1 : Below w.heap.size w w1 := hob.trans (hb1.mono hob.size)
  obtain ⟨a1, c1, rfl⟩ := hr1.slice
  have HR1 := Lib.hid hr1
  have HK1 := Lib.hid hk1
  have HB1 := Lib.hid hB1
  clear hr1 hk1 hB1 hb1 hok hob hoz
  go_wp2_with fail
  refine (HC2.out w1 _ HR1.out).mono ?_
  rintro e w2 ⟨rfl, hb2⟩
  have HK2 := Lib.hid (HK1.out.fresh hb2)
  have HB2 := Lib.hid (HB1.out.trans (hb2.mono HB1.out.size))
  clear hb2 HK1 HB1 HR1
  go_wp2_with (with_reducible refine stopStore 24 ?_)
  refine Stop.go ?_
  refine wpList_store_var rfl 24 (.tmp 4) (.tmp 8) rfl w.heap.size _ rfl _ (bvs Z) rfl HK2.out (by simp [HZ.out.2]) (bvs_one _) (by rw [bvs_length, HZ.out.2]; exact infoHash) ?_
  intro w4 hb4 ho4
  have BZ := Below.only HB2.out ho4 (Nat.le_refl _)
  have HBZ := Lib.hid hb4
  have HBL := Lib.hid BZ
  clear hb4 ho4 BZ
  go_wp2
  exact bodyPost_ret (results_cell1 rfl _ _ w.heap.size _ _ _ _ rfl HBZ.out Try.underlying24 rfl (by simp [HZ.out.2, infoHash])) rfl ⟨by rw [HZ.out.1], HBL.out⟩
end Go.Proofs.Ytbabjepblakboaa
