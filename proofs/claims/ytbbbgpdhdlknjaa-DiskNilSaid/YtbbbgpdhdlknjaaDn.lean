/- Disks that are not there; numbers at their bounds: the law's walk. -/
import Derived.Test.YtbbbgpdhdlknjaaDm
namespace Go.Proofs.Ytbbbgpdhdlknjaa
set_option linter.unusedVariables false
set_option linter.unusedSimpArgs false
open Go.RowKit Go.Lib

theorem edit_no3 (w : World) (D S : Nat) (wv : Value) (k : Dk) (i : Nat) (at_ : Int) (x : Value) (h : DkAt w D S wv k) (hi : i < 16) (h0 : 0 ≤ at_) (hn : ((k.now.getD i []).length : Int) ≤ at_) :
    Calls Try.prog 31 #[.pointer (some ⟨D, 0, none⟩), .int .i64 (i : Int), .int .i64 at_, x] w fun e w' => e = .returned (.int .i64 2) ∧ w = w' := by
  have T := Lib.hid (there_any w D S wv k h)
  have U := Lib.hid (has_yes w i hi)
  obtain ⟨vs, ns, css, hd⟩ := h
  obtain ⟨u, l, hv, hls, hr, hg⟩ := hd.ln.get hi
  have hc7 := hd.cd.cell (i + 1) _ ((dkC_now hd.ln.1 hi).trans hv)
  rw [Nat.add_comm i 1] at hc7
  obtain ⟨al, cl, rfl⟩ := hr.slice
  obtain ⟨n, hn'⟩ : ∃ n, n = l.length := ⟨_, rfl⟩
  rw [hg, ← hn'] at hn
  rw [← hn'] at hc7
  have bi : (i : Int) < 16 := by omega
  have b1 : (decide (at_ < 0)) = false := by simpa using h0
  clear hd hv hls hr hg hn' hi
  go_enter Try.func31, Try.ntmps31
  go_wp2_with fail
  refine (T.out).mono ?_
  rintro e w1 ⟨rfl, rfl⟩
  go_wp2_with fail
  refine (U.out).mono ?_
  rintro e w1 ⟨rfl, rfl⟩
  go_wp2
  go_ret
  exact ⟨rfl, rfl⟩

theorem RdU.of_block {w : World} {g : Nat} {L : Bs} (h : CB w 5 g (bvs L)) (off n c : Nat) (hn : off + n ≤ L.length) (hc : n ≤ c) (hm : c ≤ maxLen) : RdU w (.slice (some ⟨g, off, none⟩) n c) ((L.drop off).take n) := by
  have hl : ((L.drop off).take n).length = n := by rw [List.length_take, List.length_drop]; omega
  refine ⟨⟨by rw [bvs_length, Nat.mul_one], .inr ⟨⟨g, off, none⟩, c, by rw [hl], by rw [hl]; exact hc, hm, fun j u hj => ?_⟩⟩, fun k hk => ?_⟩
  · rw [add_at]
    refine h.cell _ u ?_
    rw [bvs, List.map_take, List.map_drop, List.getElem?_take] at hj
    split at hj
    · rwa [List.getElem?_drop] at hj
    · cases hj
  · simp only [Value.ownBlock, Option.some.injEq] at hk
    subst hk
    exact h.tag

theorem Mv.other {D S : Nat} {wv : Value} {w w' : World} {k : Dk} (m : Mv D S wv w w') (hd : DkAt w D S wv k) {g : Nat} {L : List Value} (c : CB w 65 g L) (hg : g ≠ D) : CB w' 65 g L := by
  obtain ⟨vs, ns, css, hd⟩ := hd
  exact c.kept (m.block g c.lt hg (c.tag.ne hd.cs.tag (by decide)) (fun e => c.tag.ne (hd.wt.tag g e) (by decide) rfl))

def zeroC : List Value := .pointer none :: (noLogs ++ [.slice none 0 0, .int .i64 0, .bool false, .bool false])

theorem appK_full {k : Dk} {i : Nat} {b : Bs} (hd : k.dead = false) (h : 16777216 < (k.now.getD i []).length + b.length) : appK k i b = (8, k) := by
  rw [appK, if_neg (by simp [hd]), if_pos h]

theorem appK_fits {k : Dk} {i : Nat} {b : Bs} (hd : k.dead = false) (h : (k.now.getD i []).length + b.length ≤ 16777216) : appK k i b = ((burnK k).1, putK k (.put i b)) := by
  rw [appK, if_neg (by simp [hd]), if_neg (by omega)]

theorem putK_now {k : Dk} {x : St} (hd : k.dead = false) : (putK k x).now = app k.now x ∧ (putK k x).wait = k.wait ++ [x] ∧ (putK k x).dead = (burnK k).2.dead := by
  rw [putK, if_neg (by simp [hd])]
  exact ⟨rfl, rfl, rfl⟩

set_option maxRecDepth 100000 in
set_option maxHeartbeats 8000000 in
theorem nil_any (w : World) : Calls Try.prog 6 #[] w fun e w' => e = .returned (.bool true) ∧ Below w.heap.size w w' := by
  obtain ⟨i0, hi0, hz0, hz1, hz2⟩ := info_parts infoU8
  have HU := Lib.hid (And.intro hi0 (And.intro hz0 (And.intro hz1 hz2)))
  clear hi0 hz0 hz1 hz2
  go_enter Try.func6, Try.ntmps6
  go_wp2_with fail
  obtain ⟨w1, h1, k1, b1, s1⟩ := alloc_cb w 65 zeroC
  change Calls _ _ _ (w.alloc (.cells zeroC.toArray 65)) _
  rw [← h1]
  have K1 := Lib.hid k1
  have B1 := Lib.hid b1
  have S1 := Lib.hid s1
  clear h1 k1 b1 s1
  refine (new_any w1).mono ?_
  rintro e w2 ⟨rfl, d2, b2, s2⟩
  have O2 : Hid (Own w.heap.size w w2 (w1.heap.size + 1) w1.heap.size (.slice none 0 0) newK) := Lib.hid ⟨d2, B1.out.tr b2, by have := S1.out; omega, by have := S1.out; omega, fun g hg => (by cases hg), Nat.le_refl _⟩
  have K2 := Lib.hid (K1.out.fresh b2)
  have NE : Hid (w.heap.size ≠ w1.heap.size + 1) := Lib.hid (by have := S1.out; omega)
  clear d2 b2 s2 K1 B1 S1
  go_wp2_with fail
  refine (read_gone w2 (.pointer none) 0 (.inl rfl)).mono ?_
  rintro e w2 ⟨rfl, rfl⟩
  have GZ : Hid (Gone w2 (.pointer (some ⟨w.heap.size, 0, none⟩))) := Lib.hid (.inr ⟨_, _, rfl, K2.out, rfl⟩)
  go_wp2_with fail
  refine (read_gone w2 _ 0 GZ.out).mono ?_
  rintro e w2 ⟨rfl, rfl⟩
  go_wp2_with fail
  refine (append_gone w2 (.pointer none) (.slice none 0 0) 0 (.inl rfl)).mono ?_
  rintro e w2 ⟨rfl, rfl⟩
  go_wp2_with fail
  refine (num_any w2 1).mono ?_
  rintro e w2 ⟨rfl, rfl⟩
  go_wp2_with fail
  refine (cut_gone w2 _ 0 0 GZ.out).mono ?_
  rintro e w3 ⟨rfl, b3⟩
  have K3 := Lib.hid (K2.out.fresh b3)
  have O3 := Lib.hid (O2.out.fresh b3)
  clear K2 O2 b3 GZ
  have GZ : Hid (Gone w3 (.pointer (some ⟨w.heap.size, 0, none⟩))) := Lib.hid (.inr ⟨_, _, rfl, K3.out, rfl⟩)
  go_wp2_with fail
  refine (num_any w3 1).mono ?_
  rintro e w3 ⟨rfl, rfl⟩
  go_wp2_with fail
  refine (sync_gone w3 (.pointer none) (.inl rfl)).mono ?_
  rintro e w3 ⟨rfl, rfl⟩
  go_wp2_with fail
  refine (num_any w3 1).mono ?_
  rintro e w3 ⟨rfl, rfl⟩
  go_wp2_with fail
  refine (setfuse_gone w3 _ 1 GZ.out).mono ?_
  rintro e w3 ⟨rfl, rfl⟩
  go_wp2_with fail
  refine (num_any w3 1).mono ?_
  rintro e w3 ⟨rfl, rfl⟩
  go_wp2_with fail
  refine (crash_gone w3 (.pointer none) 0 0 (.inl rfl)).mono ?_
  rintro e w3 ⟨rfl, rfl⟩
  go_wp2_with fail
  refine (num_any w3 1).mono ?_
  rintro e w3 ⟨rfl, rfl⟩
  go_wp2_with fail
  refine (edit_gone w3 _ (.int .u8 1) 0 0 GZ.out).mono ?_
  rintro e w3 ⟨rfl, rfl⟩
  go_wp2_with fail
  refine (num_any w3 1).mono ?_
  rintro e w3 ⟨rfl, rfl⟩
  go_wp2_with fail
  refine (num_any w3 1).mono ?_
  rintro e w3 ⟨rfl, rfl⟩
  go_wp2_with fail
  refine (num_any w3 1).mono ?_
  rintro e w3 ⟨rfl, rfl⟩
  obtain ⟨N, hN⟩ : ∃ N : Nat, N = 16777217 := ⟨_, rfl⟩
  go_wp2_with (with_reducible refine stopAt 54 ?_)
  refine Stop.go ?_
  refine wpList_make_full _ rfl _ _ 29 rfl w3.heap.size 5 i0 (.int .u8 0) 1 Try.underlying29 HU.out.1 HU.out.2.1 HU.out.2.2.1 _ _ _ _ N rfl rfl (by rw [hN]; rfl) (by rw [hN]; rfl) (by rw [HU.out.2.2.2]; omega) (by unfold maxLen; omega) (Nat.le_refl _) ?_
  intro w4 hown hgr
  have hb4 : CB w4 5 w3.heap.size (bvs (List.replicate N 0)) := by
    have hq : w4.ownsRow w3.heap.size 5 1 (.slice (some ⟨w3.heap.size, 0, none⟩) N N) N (bvs (List.replicate N 0)) := by
      simpa [bvs, bv, Value.cells, toList_madeCells_one] using hown
    rcases hq.2 with ⟨he, _⟩ | ⟨g, cap, cur, he, hbg, hg, hnc, hcm, hcs, htake⟩
    · cases he
    · simp only [Value.slice.injEq, Option.some.injEq, Addr.mk.injEq, and_true] at he
      obtain ⟨rfl, _, rfl⟩ := he
      unfold CB
      rw [hg, ← htake]
      congr 2
      rw [Nat.mul_one] at hcs ⊢
      rw [List.take_of_length_le (by simp [hcs])]
  have b4 : Below w3.heap.size w3 w4 := Below.grown (Below.refl _ w3) hgr (Nat.le_refl _) (by simp)
  obtain ⟨L, hL, hLN⟩ : ∃ L : Bs, L = List.replicate N 0 ∧ L.length = N := ⟨_, rfl, by simp⟩
  rw [← hL] at hb4
  have O4 := Lib.hid (O3.out.fresh b4)
  have K4 := Lib.hid (K3.out.fresh b4)
  have HLN := Lib.hid (And.intro hLN hN)
  have hN1 : 16777216 < N := by omega
  have hN2 : N ≤ 16777217 := by omega
  have C4 := Lib.hid hb4
  clear hL hLN hN b4 hown hgr O3 K3 hb4 GZ
  obtain ⟨M, hM⟩ : ∃ M : Bs, M = (L.drop 1).take (N - 1) := ⟨_, rfl⟩
  have hMl : M.length = N - 1 := by rw [hM, List.length_take, List.length_drop, HLN.out.1]; omega
  have EA : Hid (appK newK 3 L = (8, newK)) := Lib.hid (appK_full rfl (by rw [show (newK.now.getD 3 []).length = 0 from rfl, HLN.out.1]; omega))
  have EB : Hid (appK newK 3 M = (0, putK newK (.put 3 M))) := Lib.hid (by rw [appK_fits rfl (by rw [show (newK.now.getD 3 []).length = 0 from rfl, hMl]; omega)]; rfl)
  obtain ⟨kM, hkM⟩ : ∃ kM, kM = putK newK (.put 3 M) := ⟨_, rfl⟩
  have okM : Ok kM := by have := newK_ok.append 3 M; rw [EB.out] at this; rw [hkM]; exact this
  have n3 : (kM.now.getD 3 []).length = N - 1 := by rw [hkM, ← hMl]; rfl
  have dM : kM.dead = false := by rw [hkM]; rfl
  have EC : Hid (appK kM 3 ((L.drop 0).take 1) = (8, kM)) := Lib.hid (appK_full dM (by rw [n3, List.length_take, List.length_drop, HLN.out.1]; omega))
  have ED : Hid (appK kM 3 [] = (0, putK kM (.put 3 []))) := Lib.hid (by rw [appK_fits dM (by rw [n3]; simp; omega)]; rw [hkM]; rfl)
  obtain ⟨kE, hkE⟩ : ∃ kE, kE = putK kM (.put 3 []) := ⟨_, rfl⟩
  have okE : Ok kE := by have := okM.append 3 []; rw [ED.out] at this; rw [hkE]; exact this
  have n0 : (kE.now.getD 0 []).length = 0 := by rw [hkE, hkM]; rfl
  rw [← hkM] at EB
  rw [← hkE] at ED
  have wM : kM.wait.length = 1 := by rw [hkM]; rfl
  have HML := Lib.hid (And.intro hM hMl)
  have OKS := Lib.hid (And.intro okM (And.intro okE (And.intro wM n0)))
  clear hM hMl hkM okM n3 dM hkE okE n0 wM
  go_wp2_with fail
  have r4 := RdU.of_block C4.out 0 N N (by rw [HLN.out.1]; omega) (Nat.le_refl _) (by unfold maxLen; omega)
  rw [List.drop_zero, List.take_of_length_le (by rw [HLN.out.1]; exact Nat.le_refl _)] at r4
  refine (append_any w4 _ _ _ newK 3 _ L O4.out.1 (by decide) r4 (by rw [HLN.out.1]; omega) newK_ok.f0 newK_ok.f1 newK_ok.nl (by decide)).mono ?_
  rintro e w5 ⟨rfl, v5, d, m, g⟩
  rw [EA.out] at d ⊢
  have O5 := Lib.hid (O4.out.step d m g)
  have K5 := Lib.hid (m.other O4.out.1 K4.out NE.out)
  have C5 := Lib.hid (C4.out.kt (m.kt O4.out.1) (by decide))
  clear d m g O4 K4 C4 r4 EA
  go_wp2_with fail
  refine (num_any w5 8).mono ?_
  rintro e w5 ⟨rfl, rfl⟩
  go_wp2_with fail
  have r5 := RdU.of_block C5.out 1 (N - 1) (N - 1) (by rw [HLN.out.1]; omega) (Nat.le_refl _) (by unfold maxLen; omega)
  rw [← HML.out.1] at r5
  refine (append_any w5 _ _ _ newK 3 _ M O5.out.1 (by decide) r5 (by rw [HML.out.2]; omega) newK_ok.f0 newK_ok.f1 newK_ok.nl (by decide)).mono ?_
  rintro e w6 ⟨rfl, v6, d, m, g⟩
  rw [EB.out] at d ⊢
  have O6 := Lib.hid (O5.out.step d m g)
  have K6 := Lib.hid (m.other O5.out.1 K5.out NE.out)
  have C6 := Lib.hid (C5.out.kt (m.kt O5.out.1) (by decide))
  clear d m g O5 K5 C5 r5 EB
  go_wp2_with fail
  refine (num_any w6 0).mono ?_
  rintro e w6 ⟨rfl, rfl⟩
  go_wp2_with fail
  have r6 := RdU.of_block C6.out 0 1 N (by rw [HLN.out.1]; omega) (by omega) (by unfold maxLen; omega)
  refine (append_any w6 _ _ _ kM 3 _ ((L.drop 0).take 1) O6.out.1 (by decide) r6 (by rw [List.length_take]; omega) OKS.out.1.f0 OKS.out.1.f1 OKS.out.1.nl (by rw [OKS.out.2.2.1]; decide)).mono ?_
  rintro e w7 ⟨rfl, v7, d, m, g⟩
  rw [EC.out] at d ⊢
  have O7 := Lib.hid (O6.out.step d m g)
  have K7 := Lib.hid (m.other O6.out.1 K6.out NE.out)
  clear d m g O6 K6 C6 r6 EC
  go_wp2_with fail
  refine (num_any w7 8).mono ?_
  rintro e w7 ⟨rfl, rfl⟩
  go_wp2_with fail
  refine (append_any w7 _ _ _ kM 3 (.slice none 0 0) [] O7.out.1 (by decide) (RdU.nil _) (by decide) OKS.out.1.f0 OKS.out.1.f1 OKS.out.1.nl (by rw [OKS.out.2.2.1]; decide)).mono ?_
  rintro e w8 ⟨rfl, v8, d, m, g⟩
  rw [ED.out] at d ⊢
  have O8 := Lib.hid (O7.out.step d m g)
  have K8 := Lib.hid (m.other O7.out.1 K7.out NE.out)
  clear d m g O7 K7 ED
  go_wp2_with fail
  refine (num_any w8 0).mono ?_
  rintro e w8 ⟨rfl, rfl⟩
  have GZ : Hid (Gone w8 (.pointer (some ⟨w.heap.size, 0, none⟩))) := Lib.hid (.inr ⟨_, _, rfl, K8.out, rfl⟩)
  go_wp2_with fail
  refine (len_gone w8 (.pointer none) 0 (.inl rfl)).mono ?_
  rintro e w8 ⟨rfl, rfl⟩
  go_wp2_with fail
  refine (waiting_gone w8 _ GZ.out).mono ?_
  rintro e w8 ⟨rfl, rfl⟩
  go_wp2_with fail
  refine (dead_gone w8 (.pointer none) (.inl rfl)).mono ?_
  rintro e w8 ⟨rfl, rfl⟩
  go_wp2_with fail
  refine (copy_gone w8 (.pointer none) (.inl rfl)).mono ?_
  rintro e w8 ⟨rfl, rfl⟩
  go_wp2_with fail
  refine (copy_gone w8 _ GZ.out).mono ?_
  rintro e w8 ⟨rfl, rfl⟩
  go_wp2_with fail
  refine (same_gone w8 (.pointer none) _ (.inl rfl) GZ.out).mono ?_
  rintro e w8 ⟨rfl, rfl⟩
  go_wp2_with fail
  refine (same_half w8 (.pointer none) _ _ _ _ (.inl rfl) O8.out.1).mono ?_
  rintro e w8 ⟨rfl, rfl⟩
  go_wp2_with fail
  refine (append_no w8 _ _ _ _ 16 (.slice none 0 0) O8.out.1 (by decide)).mono ?_
  rintro e w8 ⟨rfl, rfl⟩
  go_wp2_with fail
  refine (num_any w8 2).mono ?_
  rintro e w8 ⟨rfl, rfl⟩
  go_wp2_with fail
  refine (cut_no3 w8 _ _ _ kE O8.out.1 0 1 (by decide) (by rw [OKS.out.2.2.2]; decide)).mono ?_
  rintro e w9 ⟨rfl, b9⟩
  have O9 := Lib.hid (O8.out.fresh b9)
  clear O8 b9 GZ K8
  go_wp2_with fail
  refine (num_any w9 2).mono ?_
  rintro e w9 ⟨rfl, rfl⟩
  go_wp2_with fail
  refine (setfuse_no w9 _ _ _ kE (-1) O9.out.1 (by decide)).mono ?_
  rintro e w9 ⟨rfl, rfl⟩
  go_wp2_with fail
  refine (num_any w9 2).mono ?_
  rintro e w9 ⟨rfl, rfl⟩
  go_wp2_with fail
  refine (edit_no3 w9 _ _ _ kE 0 0 (.int .u8 1) O9.out.1 (by decide) (by decide) (by rw [OKS.out.2.2.2]; decide)).mono ?_
  rintro e w9 ⟨rfl, rfl⟩
  go_wp2_with fail
  refine (num_any w9 2).mono ?_
  rintro e w9 ⟨rfl, rfl⟩
  go_wp2_with fail
  refine (known_any w9).mono ?_
  rintro e w10 ⟨rfl, b10⟩
  have BE := Lib.hid (O9.out.fresh b10).2.1
  clear O9 b10
  go_wp2
  go_ret
  exact ⟨rfl, BE.out⟩

end Go.Proofs.Ytbbbgpdhdlknjaa
