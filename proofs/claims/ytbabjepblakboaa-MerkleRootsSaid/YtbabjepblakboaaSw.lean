/- The chapter's hash of bytes: the walk. -/
import Derived.Test.YtbabjepblakboaaSu
namespace Go.Proofs.Ytbabjepblakboaa
set_option linter.unusedVariables false
set_option linter.unusedSimpArgs false
open Go.RowKit Go.Lib

def sliceLen (v : Value) : Nat := match v with
  | .slice _ n _ => n
  | _ => 0

theorem rd_one8 (w : World) (x : UInt8) (t : TypeId) : Rd (w.alloc (.cells #[.int .u8 (x.toNat : Int)] t)) 1 (.slice (some ⟨w.heap.size, 0, none⟩) 1 1) 1 (bvs [x]) := rd_one w (bv x) t

theorem Rd.below' {w w' : World} {B size : Nat} {v : Value} {n : Nat} {cs : List Value} (h : Rd w size v n cs) (hb : Below B w w') (hB : B = w.heap.size) : Rd w' size v n cs := by
  subst hB
  exact h.fresh hb

theorem outB_get (l : List W32) (i : Nat) (h : i < 4 * l.length) : (outB l)[i]? = some (UInt8.ofNat ((l.getD (i / 4) 0).toNat / 2 ^ (24 - 8 * (i % 4)))) := by
  induction l generalizing i with
  | nil => simp at h
  | cons x l ih =>
    show (wordB x ++ outB l)[i]? = _
    rcases Nat.lt_or_ge i 4 with h4 | h4
    · rw [List.getElem?_append_left (by simp [wordB]; omega)]
      have : i = 0 ∨ i = 1 ∨ i = 2 ∨ i = 3 := by omega
      rcases this with rfl | rfl | rfl | rfl <;> simp [wordB]
    · rw [List.getElem?_append_right (by simp [wordB]; omega)]
      have hl : (wordB x).length = 4 := rfl
      rw [hl, ih (i - 4) (by simp at h; omega)]
      rw [show (i - 4) % 4 = i % 4 by omega]
      obtain ⟨d, hd⟩ : ∃ d, i / 4 = d + 1 := ⟨i / 4 - 1, by omega⟩
      rw [show (i - 4) / 4 = d by omega, hd]
      simp [List.getD_eq_getElem?_getD]

set_option maxRecDepth 100000 in
set_option maxHeartbeats 1600000 in
theorem rsum_any (w : World) (v : Value) (m : List UInt8) (hr : Rd w 1 v m.length (bvs m)) (hlen : m.length ≤ 100000000) :
    Calls Try.prog 61 #[v] w fun e w' => e = .returned (.agg (bvs (shaB m)).toArray) ∧ Below w.heap.size w w' := by
  obtain ⟨i0, hi, hi0, hi1, hi2⟩ := info_parts infoU8
  obtain ⟨a0, c0, rfl⟩ := hr.slice
  obtain ⟨n, hn⟩ : ∃ n, n = m.length := ⟨_, rfl⟩
  rw [← hn] at hr hlen ⊢
  have HNN := Lib.hid hn
  have HR := Lib.hid hr
  have HLN := Lib.hid hlen
  have CS := Lib.hid (fun w0 => rstarts_any w0)
  obtain ⟨S, hS⟩ : ∃ k, k = (wds S0.l).toArray := ⟨_, rfl⟩
  rw [← hS] at CS
  have HS0 := Lib.hid hS
  clear hn hr hlen hS
  go_enter Try.func61, Try.ntmps61
  go_wp2_with (at_builtin; apply Stop.mk)
  refine Stop.go ?_
  obtain ⟨wa, ha, hak, hab, has⟩ := alloc_cb w 24 (bvs (List.replicate 32 0))
  change wpList _ _ _ _ _ (w.alloc (.cells (bvs (List.replicate 32 0)).toArray 24))
  rw [← ha]
  clear ha
  obtain ⟨N, hN⟩ : ∃ N, N = w.heap.size := ⟨_, rfl⟩
  have hra := HR.out.fresh hab
  rw [← hN] at hak hab has ⊢
  rw [HNN.out] at hra
  refine wpList_append_vw _ rfl _ (.tmp 11) 42 rfl (N + 1) 5 i0 Try.underlying42 hi hi0 hi1 hi2 (.slice none 0 0) [] rfl (Vw.nil _ _) (.slice a0 n c0) m rfl (by rw [HNN.out]; exact hra) (by simp; have := HLN.out; have := HNN.out; omega) (by omega) ?_
  intro v1 w1 hv1 hb1
  rw [List.nil_append] at hv1
  obtain ⟨a1, c1, rfl⟩ := hv1.slice
  rw [← HNN.out] at hv1 ⊢
  have hO1 := hak.below hb1 (by omega)
  have hB1 : Below N w w1 := hab.trans (hb1.mono (by omega))
  have hz1 : N + 1 ≤ w1.heap.size := by have := hb1.size; omega
  have HV1 := Lib.hid hv1
  have HO1 := Lib.hid hO1
  have HB1 := Lib.hid hB1
  have HN := Lib.hid hN
  clear hak hab has hra hv1 hb1 hO1 hB1 hN
  go_wp2_with (at_builtin; apply Stop.mk)
  refine Stop.go ?_
  have hbx : Below w1.heap.size w1 (w1.alloc (.cells #[.int .u8 128] 5)) := (Below.refl _ w1).alloc (Nat.le_refl _) _
  refine wpList_append_vw _ rfl (.tmp 12) (.tmp 13) 42 rfl (N + 1) 5 i0 Try.underlying42 hi hi0 hi1 hi2 (.slice a1 n c1) m rfl (HV1.out.fresh hbx) _ [128] rfl (rd_one8 w1 128 5) (by simp; have := HLN.out; have := HNN.out; omega) (by have := hbx.size; omega) ?_
  intro v2 w2 hv2 hb2
  obtain ⟨a2, c2, rfl⟩ := hv2.slice
  have hO2 := (HO1.out.below hbx (by omega)).below hb2 (by omega)
  have hB2 : Below N w w2 := (HB1.out.trans (hbx.mono (by omega))).trans (hb2.mono (by omega))
  have hz2 : N + 1 ≤ w2.heap.size := by have := hb2.size; have := hbx.size; omega
  obtain ⟨Z, hZ⟩ : ∃ Z, Z = (119 - n % 64) % 64 := ⟨_, rfl⟩
  have HV2 := Lib.hid hv2
  have HO2 := Lib.hid hO2
  have HB2 := Lib.hid hB2
  have HZ := Lib.hid hZ
  clear hv2 hb2 hO2 hB2 hbx HV1 HO1 HB1 hz1 hZ
  go_wp2
  go_loopw [3] (fun v3 wr => ∃ z : Nat, z ≤ Z ∧ Vw wr (N + 1) v3 (m ++ [128] ++ List.replicate z 0) ∧ Below (N + 1) w2 wr)
    (fun v _ => n + 1 + Z - sliceLen v)
  case atStart => exact ⟨0, by omega, by simpa using HV2.out, Below.refl _ _⟩
  case round =>
    obtain ⟨z, hzZ, h1, h2⟩ := hrel
    obtain ⟨a3, c3, rfl⟩ := h1.slice
    obtain ⟨X, hX⟩ : ∃ X, X = (m ++ [128] ++ List.replicate z 0).length := ⟨_, rfl⟩
    have hXn : X = n + 1 + z := by rw [hX]; simp; have := HNN.out; omega
    rw [← hX] at h1
    have H1 := Lib.hid h1
    have H2 := Lib.hid h2
    clear h1 h2 HV2
    rw [← hX]
    have HX := Lib.hid hX
    clear hX
    have hsz : N + 1 ≤ wr.heap.size := by have := H2.out.size; omega
    by_cases hlt : z < Z
    · have hq : ((X : Int) % 64 != 56) = true := by have := HZ.out; simp; omega
      have hq' : ¬ ((X : Int) % 64 = 56) := by have := HZ.out; omega
      have hbx : Below wr.heap.size wr (wr.alloc (.cells #[.int .u8 0] 5)) := (Below.refl _ wr).alloc (Nat.le_refl _) _
      have HBX := Lib.hid hbx
      clear hbx
      have HXN0 := Lib.hid hXn
      clear hXn
      go_wp2_with (at_builtin; apply Stop.mk)
      refine Stop.go ?_
      refine wpList_append_vw _ rfl (.tmp 19) (.tmp 20) 42 rfl (N + 1) 5 i0 Try.underlying42 hi hi0 hi1 hi2 (.slice a3 X c3) _ rfl (H1.out.fresh HBX.out) _ [0] rfl (rd_one8 wr 0 5) (by rw [← HX.out]; simp; have := HLN.out; have := HZ.out; have := HXN0.out; omega) (by have := HBX.out.size; omega) ?_
      intro v4 w4 hv4 hb4
      have hv4' : Vw w4 (N + 1) v4 (m ++ [128] ++ List.replicate (z + 1) 0) := by
        rw [List.replicate_succ', ← List.append_assoc]
        exact hv4
      obtain ⟨a4, c4, hv4e⟩ := hv4'.slice
      have hXl : (m ++ [128] ++ List.replicate (z + 1) 0).length = X + 1 := by simp; have := HNN.out; have := HXN0.out; omega
      rw [hXl] at hv4e
      subst hv4e
      have H14 := Lib.hid hv4'
      have H24 := Lib.hid ((H2.out.trans (HBX.out.mono (by omega))).trans (hb4.mono (Nat.le_refl _)))
      clear hv4 hv4' hb4 hXl
      go_wp2
      go_roundw
      case rel => exact ⟨z + 1, by omega, H14.out, H24.out⟩
      case measure =>
        have := HXN0.out
        simp only [sliceLen]
        omega
    · have hzz : z = Z := by omega
      have hq : ((X : Int) % 64 != 56) = false := by have := HZ.out; simp; omega
      have hq' : ((X : Int) % 64 = 56) := by have := HZ.out; omega
      obtain ⟨B8, hB8⟩ : ∃ b, b = n * 8 := ⟨_, rfl⟩
      have hnI : (n : Int) ≤ 100000000 := by have := HLN.out; omega
      have g8 : IntKind.u64.wrap ((n : Int) * 8) = (B8 : Int) := by rw [IntKind.wrap_u64]; omega
      have gn : IntKind.u64.wrap (n : Int) = (n : Int) := by rw [IntKind.wrap_u64]; omega
      have HZZ := Lib.hid hzz
      have HB8 := Lib.hid hB8
      have HXN := Lib.hid hXn
      clear hzz hB8 hnI hXn
      go_wp2
      try rw [hq]
      clear hq hq'
      rename World => wy
      go_loopw [3, 5] (fun v3 v5 wr => ∃ k : Nat, k ≤ 8 ∧ v5 = .int .i64 (7 - (k : Int)) ∧ Vw wr (N + 1) v3 (m ++ [128] ++ List.replicate z 0 ++ be8 B8 k) ∧ Below (N + 1) w2 wr)
        (fun _ v _ => (intOf v + 1).toNat)
      case atStart => exact ⟨0, by omega, rfl, by simpa [be8] using H1.out, H2.out⟩
      case round =>
        clear H1 H2
        obtain ⟨k, hk8, rfl, h1, h2⟩ := hrel
        obtain ⟨a5, c5, rfl⟩ := h1.slice
        obtain ⟨Y, hY⟩ : ∃ Y, Y = (m ++ [128] ++ List.replicate z 0 ++ be8 B8 k).length := ⟨_, rfl⟩
        have hYn : Y = n + 1 + z + k := by rw [hY]; simp; have := HNN.out; omega
        rw [← hY] at h1 ⊢
        have H1 := Lib.hid h1
        have H2 := Lib.hid h2
        have HY := Lib.hid hY
        have HYN := Lib.hid hYn
        clear h1 h2 hY hYn
        have hsz : N + 1 ≤ wr.heap.size := by have := H2.out.size; omega
        by_cases hlt : k < 8
        · obtain ⟨i, hi5⟩ : ∃ i, i = 7 - k := ⟨_, rfl⟩
          obtain ⟨sh, hsh⟩ : ∃ v, v = 8 * i := ⟨_, rfl⟩
          have e7 : (7 - (k : Int)) = (i : Int) := by omega
          have e3 : IntKind.i64.wrap (8 * (i : Int)) = (sh : Int) := by rw [IntKind.wrap_i64]; omega
          have gi : IntKind.i64.wrap ((i : Int) - 1) = (i : Int) - 1 := by rw [IntKind.wrap_i64]; omega
          have e4 : IntKind.u64.wrap (sh : Int) = (sh : Int) := by rw [IntKind.wrap_u64]; omega
          have EI := Lib.hid (And.intro hi5 hsh)
          obtain ⟨bt, hbt⟩ : ∃ b : UInt8, b = UInt8.ofNat (B8 / 2 ^ (8 * (7 - k))) := ⟨_, rfl⟩
          have hbv : ((B8 : Int) / 2 ^ min sh 64 % 256) = (bt.toNat : Int) := by
            have h3 : ((B8 / 2 ^ (8 * (7 - k)) : Nat) : Int) = (B8 : Int) / 2 ^ min sh 64 := by
              rw [show min sh 64 = 8 * (7 - k) by omega]
              simp
            have h4 : bt.toNat = B8 / 2 ^ (8 * (7 - k)) % 256 := by rw [hbt]; simp
            rw [← h3, h4]
            simp
          have HBT := Lib.hid (And.intro hbt hbv)
          rw [e7]
          have HE7 := Lib.hid e7
          clear hi5 hsh hbt hbv e7
          go_wp2_with (at_builtin; apply Stop.mk)
          refine Stop.go ?_
          rw [HBT.out.2]
          have hbx : Below wr.heap.size wr (wr.alloc (.cells #[.int .u8 (bt.toNat : Int)] 5)) := (Below.refl _ wr).alloc (Nat.le_refl _) _
          have HBX := Lib.hid hbx
          clear hbx
          refine wpList_append_vw _ rfl (.tmp 30) (.tmp 37) 42 rfl (N + 1) 5 i0 Try.underlying42 hi hi0 hi1 hi2 (.slice a5 Y c5) _ rfl (H1.out.fresh HBX.out) _ [bt] rfl (rd_one8 wr bt 5) (by rw [← HY.out]; simp; have := HLN.out; have := HYN.out; have := HZ.out; have := HZZ.out; omega) (by have := HBX.out.size; omega) ?_
          intro v6 w6 hv6 hb6
          have hv6' : Vw w6 (N + 1) v6 (m ++ [128] ++ List.replicate z 0 ++ be8 B8 (k + 1)) := by
            rw [HBT.out.1, List.append_assoc] at hv6
            exact hv6
          obtain ⟨a6, c6, hv6e⟩ := hv6'.slice
          have hYl : (m ++ [128] ++ List.replicate z 0 ++ be8 B8 (k + 1)).length = Y + 1 := by simp; have := HNN.out; have := HYN.out; omega
          rw [hYl] at hv6e
          subst hv6e
          have H16 := Lib.hid hv6'
          have H26 := Lib.hid ((H2.out.trans (HBX.out.mono (by omega))).trans (hb6.mono (Nat.le_refl _)))
          clear hv6 hv6' hb6 hYl
          go_wp2
          go_roundw
          case rel =>
            refine ⟨k + 1, by omega, ?_, H16.out, H26.out⟩
            have := HE7.out
            simp only [Value.int.injEq, true_and]
            omega
          case measure =>
            have := HE7.out
            simp only [intOf]
            omega
        · have hk : k = 8 := by omega
          obtain ⟨M, hM⟩ : ∃ M, M = m ++ padB m.length := ⟨_, rfl⟩
          have hM2 : m ++ [128] ++ List.replicate z 0 ++ be8 B8 k = M := by
            rw [hM, hk, HB8.out, HZZ.out, HZ.out, HNN.out]
            unfold padB
            simp
          have hv7 := H1.out
          rw [hM2] at hv7
          have hYM : Y = M.length := by rw [HY.out, hM2]
          have hM64 : M.length % 64 = 0 := by rw [hM, List.length_append]; exact pad_whole _
          have hO7 : CB wr 24 N (bvs (List.replicate 32 0)) := HO2.out.below H2.out (by omega)
          have hB7 : Below N w wr := HB2.out.trans (H2.out.mono (by omega))
          have e7 : (7 - (k : Int)) = -1 := by omega
          rw [e7]
          have HV7 := Lib.hid hv7
          have HYM := Lib.hid hYM
          have HM := Lib.hid hM
          have HM64 := Lib.hid hM64
          have HO7 := Lib.hid hO7
          have HB7 := Lib.hid hB7
          have HK8 := Lib.hid hk
          have HSZ := Lib.hid hsz
          clear hv7 hYM hM hM64 hO7 hB7 hk H1 H2 hM2 e7 hsz
          go_wp2_with fail
          refine (CS.out wr).mono ?_
          rintro e w7 ⟨rfl, hb7⟩
          have hv7 := HV7.out.fresh hb7
          have hO7 := HO7.out.fresh hb7
          have hB7 := HB7.out.trans (hb7.mono (by have := HSZ.out; omega))
          have hs7 : N + 1 ≤ w7.heap.size := by have := hb7.size; have := HSZ.out; omega
          rw [HS0.out]
          go_wp2_with (with_reducible refine stopStore 169 ?_)
          refine Stop.go ?_
          obtain ⟨w8, hw8, h8k, h8b, h8z⟩ := alloc_cb w7 169 (wds (List.replicate 8 0))
          change wpList _ _ _ _ _ (w7.alloc (.cells (wds (List.replicate 8 0)).toArray 169))
          rw [← hw8]
          clear hw8
          obtain ⟨Q, hQ⟩ : ∃ Q, Q = w7.heap.size := ⟨_, rfl⟩
          rw [← hQ] at h8k h8b h8z hs7 ⊢
          refine wpList_store_var rfl 169 (.tmp 6) (.tmp 39) rfl Q _ rfl _ (wds S0.l) rfl h8k (by simp [wds_length, St.l]) (wds_one _) (by rw [wds_length]; exact infoW8) ?_
          intro w9 hb9 ho9
          have h9 : Below Q w7 w9 := Below.only h8b ho9 (Nat.le_refl _)
          have HQ9 : Hid (CB w9 169 Q (wds (pressN 0 S0 M).l)) := Lib.hid hb9
          have H9 := Lib.hid h9
          have HV8 := Lib.hid hv7
          have HO8 := Lib.hid hO7
          have HB8' := Lib.hid hB7
          have HQ := Lib.hid hQ
          have hq1 : Q + 1 ≤ w9.heap.size := by have := ho9.size; omega
          have HQ1 := Lib.hid hq1
          obtain ⟨s0, hs0⟩ : ∃ s, s = wds S0.l := ⟨_, rfl⟩
          rw [← hs0]
          clear hb9 ho9 h9 h8k h8b h8z hv7 hO7 hB7 hQ hb7 HV7 HO7 HB7 HS0 hs0 hq1
          go_wp2
          rename World => wx
          go_loopw [7] (fun v7 wr => ∃ j : Nat, 64 * j ≤ Y ∧ v7 = .int .i64 ((64 * j : Nat) : Int) ∧ CB wr 169 Q (wds (pressN j S0 M).l) ∧ Below Q w7 wr ∧ Q + 1 ≤ wr.heap.size)
            (fun v _ => Y - (intOf v).toNat)
          case atStart => exact ⟨0, by omega, rfl, HQ9.out, H9.out, HQ1.out⟩
          case round =>
            clear HQ9 H9 HQ1
            obtain ⟨j, hj, rfl, h1, h2, h3⟩ := hrel
            have J1 := Lib.hid h1
            have J2 := Lib.hid h2
            have J3 := Lib.hid h3
            clear h1 h2 h3
            obtain ⟨o, ho⟩ : ∃ o, o = 64 * j := ⟨_, rfl⟩
            rw [← ho] at hj ⊢
            have HO := Lib.hid ho
            clear ho
            by_cases hlt : o < Y
            · have ho64 : o + 64 ≤ Y := by have := HO.out; have := HM64.out; have := HYM.out; omega
              rcases HV8.out with ⟨_, hn0⟩ | ⟨g, off, c, he, hbg, hRc, hcm, _, _⟩
              · have := HYM.out; rw [hn0] at this; simp at this; omega
              simp only [Value.slice.injEq] at he
              obtain ⟨rfl, hx1, rfl⟩ := he
              clear hx1
              rw [← HYM.out] at hRc
              have hoc : (o : Int) + 64 ≤ (c5 : Int) := by omega
              have hne : ¬ (c5 = o) := by omega
              obtain ⟨o2, ho2⟩ : ∃ x, x = o + 64 := ⟨_, rfl⟩
              have hYs : Y ≤ 200000000 := by have := HXN.out; have := HYN.out; have := HLN.out; have := HZ.out; have := HZZ.out; omega
              have go2 : IntKind.i64.wrap ((o : Int) + 64) = (o2 : Int) := by rw [IntKind.wrap_i64]; omega
              have bo2 : (o2 : Int) ≤ (c5 : Int) := by omega
              have boo : (o : Int) ≤ (o2 : Int) := by omega
              have e64 : o2 - o = 64 := by omega
              have HO2' := Lib.hid ho2
              clear ho2 hYs hoc
              have hlen64 : ((M.drop o).take 64).length = 64 := by rw [List.length_take, List.length_drop, ← HYM.out]; omega
              have hrb : Rd wr 1 (.slice (some ⟨g, off + o, none⟩) 64 (c5 - o)) 64 (bvs ((M.drop o).take 64)) := by
                have h1 := HV8.out.rd
                rw [← HYM.out] at h1
                have h2 := h1.below' (J2.out.mono (by have := HQ.out; omega)) HQ.out
                have h3 := Rd.drop h2 o (c5 - o) (by omega) (by omega) (by omega)
                have h4 := Rd.take h3 64 (c5 - o) (by omega) (by omega) (by omega)
                rw [add_at] at h4
                exact h4
              have HRB := Lib.hid hrb
              have HL64 := Lib.hid hlen64
              clear hrb hlen64 hRc hcm
              go_wp2_with fail
              obtain ⟨wf, hwf, hfk, hfb, hfz⟩ := alloc_cb wr 171 (bvs (List.replicate 64 0))
              change Code.wp _ _ _ _ (wr.alloc (.cells (bvs (List.replicate 64 0)).toArray 171))
              rw [← hwf]
              clear hwf
              obtain ⟨F, hF⟩ : ∃ F, F = wr.heap.size := ⟨_, rfl⟩
              have hrf := HRB.out.fresh hfb
              rw [← hF] at hfk hfb hfz ⊢
              have HRF := Lib.hid hrf
              have HFK : Hid (BB wf 171 F (List.replicate 64 0)) := Lib.hid hfk
              have HFB := Lib.hid hfb
              have HFZ := Lib.hid hfz
              have HF := Lib.hid hF
              clear hrf hfk hfb hfz hF HRB
              go_still_tail 6, (by kernel_rfl)
              change wpList _ _ _ _ _ wf.drew
              refine wpList_copy_all rfl (.tmp 46) (.tmp 51) 42 42 rfl 5 Try.underlying42 sizeU8 F 64 64 171 (List.replicate 64 0) ((M.drop o).take 64) (.slice (some ⟨g, off + o, none⟩) 64 (c5 - o)) 64 rfl rfl rfl HFK.out HRF.out ?_
              intro wg hbg' hog
              obtain ⟨blk, hblk⟩ : ∃ b, b = (M.drop o).take 64 := ⟨_, rfl⟩
              have hbl : blk.length = 64 := by rw [hblk]; exact HL64.out
              have hbb : BB wg 171 F blk := by
                rw [← hblk] at hbg'
                have h1 : List.take 64 blk ++ List.drop (Nat.min 64 64) (List.replicate 64 0) = blk := by
                  rw [List.take_of_length_le (by omega)]
                  simp
                rw [h1] at hbg'
                exact hbg'
              have hBf : Below Q w7 wf := J2.out.trans (HFB.out.mono (by have := HF.out; have := J3.out; omega))
              have hBg : Below Q w7 wg := Below.only hBf.drew hog (by have := HF.out; have := J3.out; omega)
              have hQg : CB wg 169 Q (wds (pressN j S0 M).l) := CB.only (CB.drew (J1.out.fresh (by rw [← HF.out]; exact HFB.out))) hog (by have := HF.out; have := J3.out; omega)
              have hzg : Q + 1 ≤ wg.heap.size := by rw [hog.size]; have := HFZ.out; have := HF.out; have := J3.out; show Q + 1 ≤ wf.heap.size; omega
              obtain ⟨st, hst⟩ : ∃ st, st = pressN j S0 M := ⟨_, rfl⟩
              rw [← hst] at hQg
              have HST := Lib.hid hst
              have HBL := Lib.hid hbl
              have HBLK := Lib.hid hblk
              have HBB := Lib.hid hbb
              have HBG := Lib.hid hBg
              have HQG := Lib.hid hQg
              have HZG := Lib.hid hzg
              clear hst hbl hblk hbb hBf hBg hQg hzg hbg' hog J1 J2 J3 HFB HFK HRF HL64
              go_wp2_with (with_reducible refine stopAt 53 ?_)
              refine Stop.go ?_
              refine wpList_load_agg rfl 169 (.tmp 6) rfl ⟨Q, 0, none⟩ rfl (wds st.l) _ HQG.out.at.load Try.underlying169 rfl (by rw [wds_length]; exact infoW8) ?_
              go_wp2_with (with_reducible refine stopAt 54 ?_)
              refine Stop.go ?_
              refine wpList_load_agg rfl 171 (.tmp 8) rfl ⟨F, 0, none⟩ rfl (bvs blk) _ (At.block HBB.out).load Try.underlying171 rfl (by rw [bvs_length, HBL.out]; exact infoB64) ?_
              go_wp2_with fail
              refine (rpress_any wg st blk HBL.out).mono ?_
              rintro e wh ⟨rfl, hbh⟩
              have hQh := HQG.out.fresh hbh
              have hBh := HBG.out.trans (hbh.mono (by have := HZG.out; omega))
              have hzh : Q + 1 ≤ wh.heap.size := by have := hbh.size; have := HZG.out; omega
              obtain ⟨st', hst'⟩ : ∃ s', s' = pressS KS st blk := ⟨_, rfl⟩
              rw [← hst']
              have HST' := Lib.hid hst'
              have HQH := Lib.hid hQh
              have HBH := Lib.hid hBh
              have HZH := Lib.hid hzh
              clear hst' hQh hBh hzh hbh HQG HBG HZG HBB
              go_wp2_with (with_reducible refine stopStore 169 ?_)
              refine Stop.go ?_
              refine wpList_store_var rfl 169 (.tmp 6) (.tmp 55) rfl Q _ rfl _ (wds st'.l) rfl HQH.out (by simp [wds_length, St.l]) (wds_one _) (by rw [wds_length]; exact infoW8) ?_
              intro wi hbi hoi2
              have HQI : Hid (CB wi 169 Q (wds (pressN (j + 1) S0 M).l)) := by
                have h1 : st' = pressN (j + 1) S0 M := by rw [HST'.out, pressN_snoc, HST.out, HBLK.out, HO.out]
                rw [← h1]
                exact Lib.hid hbi
              have HBI := Lib.hid (Below.only HBH.out hoi2 (Nat.le_refl _))
              have HZI : Hid (Q + 1 ≤ wi.heap.size) := Lib.hid (by rw [hoi2.size]; exact HZH.out)
              clear hbi hoi2 HQH HBH HZH
              go_wp2
              go_roundw
              case rel =>
                have := HO.out
                have := HO2'.out
                refine ⟨j + 1, by omega, ?_, HQI.out, HBI.out, HZI.out⟩
                simp only [Value.int.injEq, true_and]
                omega
              case measure =>
                have := HO2'.out
                simp only [intOf]
                omega
            · have hoY : o = Y := by omega
              have hjj : M.length / 64 = j := by have := HO.out; have := HYM.out; omega
              have hbq : (decide ((o : Int) < (Y : Int))) = false := by simp; omega
              have hfin : shaB m = outB (pressN j S0 M).l := by
                unfold shaB
                rw [← HM.out, hjj]
              obtain ⟨st, hst⟩ : ∃ st, st = pressN j S0 M := ⟨_, rfl⟩
              rw [← hst] at hfin
              have hQg := J1.out
              rw [← hst] at hQg
              have HFIN := Lib.hid hfin
              have HQG := Lib.hid hQg
              clear hfin hQg hst hoY hjj J1
              go_wp2
              try rw [hbq]
              clear hbq
              rename World => wk
              obtain ⟨wl, hwl, hlk, hlb, hlz⟩ := alloc_cb wk 24 (bvs (List.replicate 32 0))
              change Code.wp _ _ _ _ (wk.alloc (.cells (bvs (List.replicate 32 0)).toArray 24))
              rw [← hwl]
              clear hwl
              obtain ⟨R, hR⟩ : ∃ R, R = wk.heap.size := ⟨_, rfl⟩
              rw [← hR] at hlk hlb hlz ⊢
              have hQR : Q + 1 ≤ R := by have := J3.out; omega
              have HLK : Hid (BB wl 24 R (List.replicate 32 0)) := Lib.hid hlk
              have HLB := Lib.hid hlb
              have HRR := Lib.hid hR
              clear hlk hlb hlz hR
              obtain ⟨O, hO⟩ : ∃ o, o = outB st.l := ⟨_, rfl⟩
              have hOl : O.length = 32 := by rw [hO, outB_length]; rfl
              have HOO := Lib.hid (And.intro hO hOl)
              clear hO hOl
              go_loopw [10] (fun v10 wr => ∃ i : Nat, i ≤ 32 ∧ v10 = .int .i64 (i : Int) ∧ BB wr 24 R (O.take i ++ List.replicate (32 - i) 0) ∧ Below R wk wr)
                (fun v _ => 32 - (intOf v).toNat)
              case atStart => exact ⟨0, by omega, rfl, by simpa using HLK.out, HLB.out⟩
              case round =>
                obtain ⟨i, hi32, rfl, h1, h2⟩ := hrel
                have L1 := Lib.hid h1
                have L2 := Lib.hid h2
                clear h1 h2 HLK HLB
                by_cases hlti : i < 32
                · obtain ⟨d, hd⟩ : ∃ d, d = i / 4 := ⟨_, rfl⟩
                  obtain ⟨r, hr⟩ : ∃ r, r = i % 4 := ⟨_, rfl⟩
                  obtain ⟨r8, hr8⟩ : ∃ x, x = 8 * r := ⟨_, rfl⟩
                  obtain ⟨sh, hsh⟩ : ∃ x, x = 24 - r8 := ⟨_, rfl⟩
                  obtain ⟨x, hx⟩ : ∃ x, x = st.l.getD d 0 := ⟨_, rfl⟩
                  obtain ⟨X, hX⟩ : ∃ n, n = x.toNat := ⟨_, rfl⟩
                  have fx : wr.cell? ⟨Q, d, none⟩ = some (.int .u32 (X : Int)) := by
                    rw [hX, hx]
                    exact (CB.below HQG.out L2.out (by omega)).cell d _ (wds_get _ _ (by simp [St.l]; omega))
                  have e1 : (i : Int).tdiv 4 = (d : Int) := by rw [hd]; exact (Int.ofNat_tdiv i 4).symm
                  have e2 : (i : Int).tmod 4 = (r : Int) := by rw [hr]; exact (Int.ofNat_tmod i 4).symm
                  have e1' : (i : Int) / 4 = (d : Int) := by omega
                  have e2' : (i : Int) % 4 = (r : Int) := by omega
                  have e3 : IntKind.i64.wrap (8 * (r : Int)) = (r8 : Int) := by rw [IntKind.wrap_i64]; omega
                  have e4 : IntKind.i64.wrap (24 - (r8 : Int)) = (sh : Int) := by rw [IntKind.wrap_i64]; omega
                  have e5 : IntKind.u64.wrap (sh : Int) = (sh : Int) := by rw [IntKind.wrap_u64]; omega
                  have e6 : (0 : Int) ≤ (sh : Int) := by omega
                  have bd : (d : Int) < 8 := by omega
                  have bi : (i : Int) < 32 := by omega
                  have hgo := outB_get st.l i (by simp [St.l]; omega)
                  rw [← HOO.out.1, ← hd, ← hr, ← hx, ← hX] at hgo
                  have hz : (O.take i ++ List.replicate (32 - i) 0)[i]? = some 0 := by
                    rw [List.getElem?_append_right (by rw [List.length_take]; omega), List.getElem?_replicate, if_pos (by rw [List.length_take, HOO.out.2]; omega)]
                  have cz := L1.out.cell i 0 hz
                  have fz := L1.out.free i
                  unfold bv at cz
                  have HGO := Lib.hid hgo
                  have HSH : Hid (sh = 24 - 8 * r ∧ sh ≤ 24) := Lib.hid ⟨by omega, by omega⟩
                  clear hgo hz hd hr hr8 hsh hx hX
                  go_wp2
                  go_roundw
                  case rel =>
                    refine ⟨i + 1, by omega, by go_num, ?_, L2.out.setCell (Nat.le_refl _) _⟩
                    have h1 := L1.out.set i (UInt8.ofNat (X / 2 ^ (24 - 8 * r)))
                    have hl0 : (O.take i).length = i := by rw [List.length_take, HOO.out.2]; omega
                    rw [show 32 - i = (32 - (i + 1)) + 1 by omega, List.replicate_succ, List.set_append_right _ _ (by omega), hl0, Nat.sub_self, List.set_cons_zero] at h1
                    have h2 : O.take (i + 1) = O.take i ++ [UInt8.ofNat (X / 2 ^ (24 - 8 * r))] := by
                      rw [List.take_add_one, HGO.out]
                      rfl
                    rw [h2, List.append_assoc]
                    rw [bv_ofNat] at h1
                    have h3 : ((X / 2 ^ (24 - 8 * r) : Nat) : Int) = (X : Int) / 2 ^ min sh 32 := by
                      have := HSH.out
                      rw [show min sh 32 = 24 - 8 * r by omega]
                      simp
                    rw [h3] at h1
                    exact h1
                  case measure =>
                    simp only [intOf]
                    omega
                · have hi32' : i = 32 := by omega
                  have h1 : BB wr 24 R O := by
                    have h2 := L1.out
                    rw [hi32', List.take_of_length_le (by rw [HOO.out.2]; exact Nat.le_refl _)] at h2
                    simpa using h2
                  have hON : CB wr 24 N (bvs (List.replicate 32 0)) := CB.below (CB.below HO8.out J2.out (by omega)) L2.out (by omega)
                  have hBN : Below N w wr := (HB8'.out.trans (J2.out.mono (by omega))).trans (L2.out.mono (by omega))
                  have hOf : O = shaB m := by rw [HOO.out.1, HFIN.out]
                  have HB9 := Lib.hid h1
                  have HON := Lib.hid hON
                  have HBN := Lib.hid hBN
                  have HOF := Lib.hid hOf
                  clear h1 hON hBN hOf hi32' L1 L2 J2
                  go_wp2_with (with_reducible refine stopAt 73 ?_)
                  refine Stop.go ?_
                  refine wpList_load_agg rfl 24 (.tmp 9) rfl ⟨R, 0, none⟩ rfl (bvs O) _ (At.block HB9.out).load Try.underlying24 rfl (by rw [bvs_length, HOO.out.2]; exact infoHash) ?_
                  go_wp2_with (with_reducible refine stopStore 24 ?_)
                  refine Stop.go ?_
                  refine wpList_store_var rfl 24 (.tmp 2) (.tmp 73) rfl N _ rfl _ (bvs O) rfl HON.out (by simp [HOO.out.2]) (bvs_one _) (by rw [bvs_length, HOO.out.2]; exact infoHash) ?_
                  intro wz hbz hoz
                  have BZ := Below.only HBN.out hoz (Nat.le_refl _)
                  rw [HN.out] at BZ
                  have HBZ := Lib.hid hbz
                  have HBL2 := Lib.hid BZ
                  clear hbz hoz BZ
                  go_wp2
                  exact bodyPost_ret (results_cell1 rfl _ _ N _ _ _ _ rfl HBZ.out Try.underlying24 rfl (by simp [HOO.out.2, infoHash])) rfl ⟨by rw [HOF.out], HBL2.out⟩
end Go.Proofs.Ytbabjepblakboaa
