/- Texts Be Bf Bg Bh Bi Bj, one behind the other. -/
import Derived.Test.YtkbahhnjoidhcaaG11
import Derived.Test.YtkbahhnjoidhcaaG5
import Derived.Test.YtkbahhnjoidhcaaVi
import Derived.Test.YtkbahhnjoidhcaaXu
import Derived.Test.YtkbahhnjoidhcaaVh
import Derived.Test.YtkbahhnjoidhcaaVk
import Derived.Test.YtkbahhnjoidhcaaXp
import Derived.Test.YtkbahhnjoidhcaaVj
/- The reference's Check of blocks: the walk. -/
namespace Go.Proofs.Ytkbahhnjoidhcaa
set_option linter.unusedVariables false
set_option linter.unusedSimpArgs false
open Go.RowKit Go.Lib

set_option maxRecDepth 100000 in
set_option maxHeartbeats 4000000 in
theorem rbcheck_any (F : Nat → Prop) (w : World) (b : BlD) (v t : Value) (hx : HdOk b.hd) (hv : Hs w v b.hd.par) (ht : Txs F w t b.txs) (hwf : ∀ x ∈ b.txs, TxWf x) (hl : b.txs.length ≤ 1048576) :
    Calls Try.prog 34 #[.agg (blC b v t).toArray] w fun e w' => e = .returned (.int .i64 (blockE b)) ∧ Below w.heap.size w w' := by
  obtain ⟨a0, c0, rfl⟩ := hv.slice
  obtain ⟨a1, c1, rfl⟩ := ht.slice
  obtain ⟨P, hP⟩ : ∃ P, P = b.hd.par.length := ⟨_, rfl⟩
  obtain ⟨N, hN⟩ : ∃ N, N = b.txs.length := ⟨_, rfl⟩
  rw [← hP] at hv ⊢
  rw [← hN] at ht hl ⊢
  obtain ⟨X, hX⟩ : ∃ X, X = blC b (.slice a0 P c0) (.slice a1 N c1) := ⟨_, rfl⟩
  rw [← hX]
  have HX := Lib.hid hX
  have bN' : (N : Int) ≤ 9223372036854775807 := by omega
  have HT := Lib.hid ht
  have HOK := Lib.hid hx
  have HV := Lib.hid hv
  have HN := Lib.hid (And.intro hN (And.intro hP (And.intro hwf hl)))
  obtain ⟨us, hlu, hru, heu⟩ := ht
  rw [← hN] at hlu hru
  change RdF F w 3 (.slice a1 N c1) N _ at hru
  have HI := Lib.hid hru.1
  have HE := Lib.hid (And.intro hlu heu)
  obtain ⟨R, hR⟩ : ∃ R, R = blockE b := ⟨_, rfl⟩
  rw [← hR]
  have HR := Lib.hid hR
  clear hX hx hv hwf hl hR hlu hru heu hN
  by_cases h1 : 255 < P
  · have i1 : (255 : Int) < (P : Int) := by omega
    have hr : Hid (R = 2) := Lib.hid (by
      have e : bE1 b = 2 := by unfold bE1; rw [← hP, decide_eq_true h1]; rfl
      rw [HR.out, blockE, e]; rfl)
    clear h1 hP
    go_enter Try.func34, Try.ntmps34
    go_wp2_with (with_reducible refine stopAt 7 ?_)
    refine Stop.go ?_
    obtain ⟨w1, hw1, k1, b1, s1⟩ := alloc_cb w 30 X
    change wpList _ _ _ _ _ (w.alloc (.cells X.toArray 30))
    rw [← hw1]
    have BB := Lib.hid b1
    rw [HX.out] at k1
    have hc0 := hd_cell (At.pre (At.block k1))
    clear hw1 k1 b1 s1
    go_wp2
    go_ret
    exact ⟨by rw [hr.out] <;> rfl, BB.out⟩
  have i1 : ¬ (255 : Int) < (P : Int) := by omega
  have HP : Hid (decide (255 < b.hd.par.length) = false) := Lib.hid (by rw [← hP]; exact decide_eq_false h1)
  clear h1 hP
  go_enter Try.func34, Try.ntmps34
  go_wp2_with (with_reducible refine stopAt 7 ?_)
  refine Stop.go ?_
  obtain ⟨w1, hw1, k1, b1, s1⟩ := alloc_cb w 30 X
  change wpList _ _ _ _ _ (w.alloc (.cells X.toArray 30))
  rw [← hw1]
  obtain ⟨g, hg⟩ : ∃ g, g = w.heap.size := ⟨_, rfl⟩
  rw [← hg] at k1 ⊢
  rw [HX.out] at k1
  have BB := Lib.hid b1
  have KB := Lib.hid k1
  have hc0 := hd_cell (At.pre (At.block k1))
  clear hw1 k1 b1 s1 hg
  go_wp2
  clear hc0 i1
  go_loopw [3] (fun v3 wr => Below w.heap.size w wr ∧ CB wr 30 g (blC b (.slice a0 P c0) (.slice a1 N c1)) ∧ ∃ k : Nat, k ≤ N ∧ v3 = .int .i64 (k : Int) ∧ (b.txs.take k).any badT = false)
    (fun v _ => N - (RowKit.intOf v).toNat)
  case atStart => exact ⟨BB.out, KB.out, 0, Nat.zero_le _, rfl, rfl⟩
  case round =>
    obtain ⟨hb, hkb, k, hk, rfl, hn⟩ := hrel
    replace BB := Lib.hid hb
    replace KB := Lib.hid hkb
    have NN := Lib.hid hn
    clear hb hkb hn
    have hc1 := bl_cell (At.block KB.out) HOK.out
    by_cases hlt : k < N
    · obtain ⟨xk, hx⟩ : ∃ z, b.txs[k]? = some z := ⟨_, List.getElem?_eq_getElem (by rw [← HN.out.1]; exact hlt)⟩
      obtain ⟨uk, hux⟩ : ∃ z, us[k]? = some z := ⟨_, List.getElem?_eq_getElem (by rw [HE.out.1]; exact hlt)⟩
      obtain ⟨ad, c, he⟩ := rd_some HI.out (by omega)
      simp only [Value.slice.injEq, true_and] at he
      obtain ⟨rfl, rfl⟩ := he
      have hz : (b.txs.zip us)[k]? = some (xk, uk) := by rw [List.getElem?_zip_eq_some]; exact ⟨hx, hux⟩
      have h9 := HE.out.2 k xk uk hx hux
      have HC := Lib.hid ((HI.out.fresh BB.out).at (fun z _ => rfl) hz)
      have HXK := Lib.hid hx
      have ik : (k : Int) < (N : Int) := by omega
      have HK := Lib.hid hlt
      have C := rmay_any F wr xk uk (h9.1.fresh BB.out) (h9.2.fresh BB.out) (HN.out.2.2.1 xk (List.mem_of_getElem? hx))
      obtain ⟨B, hB⟩ : ∃ B, B = decide (checkE xk = 0) := ⟨_, rfl⟩
      rw [← hB] at C
      replace C := Lib.hid C
      have HB : Hid (badT xk = !B) := Lib.hid (by unfold badT; rw [hB])
      clear hx hux hz h9 hlt hk hB
      go_wp2_with (with_reducible refine stopAt 23 ?_)
      refine Stop.go ?_
      refine wpList_load_agg rfl 37 (.tmp 22) rfl (ad.add (k * 3)) rfl (txC (xk, uk)) _ HC.out Try.underlying37 rfl (by exact infoTx) ?_
      go_wp2_with fail
      refine (C.out).mono ?_
      rintro e w2 ⟨rfl, b2⟩
      have Q := Lib.hid (BB.out.tr b2)
      have K2 := Lib.hid (KB.out.fresh b2)
      clear b2 C HC hc1
      cases B
      · have hr : Hid (R = 2) := Lib.hid (by
          have e : bE1 b = 2 := by
            unfold bE1
            rw [if_pos (by rw [Bool.or_eq_true]; exact .inr (List.any_eq_true.2 ⟨xk, List.mem_of_getElem? HXK.out, HB.out⟩))]
          rw [HR.out, blockE, e]; rfl)
        go_wp2
        go_ret
        exact ⟨by rw [hr.out] <;> rfl, Q.out⟩
      · have hn2 := Lib.hid (show (b.txs.take (k + 1)).any badT = false by
          rw [List.take_add_one, HXK.out, Option.toList, List.any_append, NN.out]
          simp [HB.out])
        go_wp2
        go_roundw
        case rel => exact ⟨Q.out, K2.out, k + 1, HK.out, by go_num, hn2.out⟩
        case measure => simp only [RowKit.intOf]; have := HK.out; omega
    · have ik : ¬ ((k : Int) < (N : Int)) := by omega
      have hE1 : Hid (bE1 b = 0) := Lib.hid (by
        have h := NN.out
        rw [List.take_of_length_le (by rw [← HN.out.1]; omega)] at h
        unfold bE1
        rw [HP.out, h]
        rfl)
      clear hlt hk NN
      by_cases h2 : 200 < N
      · have i2 : (200 : Int) < (N : Int) := by omega
        have hr : Hid (R = 8) := Lib.hid (by
          have e : bE2 b = 8 := by unfold bE2; rw [if_pos (by rw [← HN.out.1]; exact h2)]
          rw [HR.out, blockE, hE1.out, e]; rfl)
        clear h2
        go_wp2
        go_ret
        exact ⟨by rw [hr.out] <;> rfl, BB.out⟩
      have i2 : ¬ (200 : Int) < (N : Int) := by omega
      have hE2 : Hid (bE2 b = 0) := Lib.hid (by unfold bE2; rw [if_neg (by rw [← HN.out.1]; exact h2)])
      clear h2
      obtain ⟨l, hl⟩ : ∃ l, l = b.txs.map idB := ⟨_, rfl⟩
      have HL : Hid (H32 l ∧ l.length = N ∧ l = b.txs.map idB) := Lib.hid ⟨by rw [hl]; exact ids_h32 _, by rw [hl, HN.out.1, List.length_map], hl⟩
      have C := rbids_any F wr (.slice a1 N c1) b.txs (HT.out.fresh BB.out) HN.out.2.2.1 (by rw [← HN.out.1]; exact HN.out.2.2.2)
      rw [← hl] at C
      replace C := Lib.hid C
      clear hl
      go_wp2_with fail
      refine (C.out).mono ?_
      rintro e w2 ⟨v2, rfl, o2, b2⟩
      obtain ⟨a2, c2, rfl⟩ := o2.hs.slice' HL.out.2.1
      have HS := Lib.hid o2.hs
      replace BB := Lib.hid (BB.out.tr b2)
      replace KB := Lib.hid (KB.out.fresh b2)
      clear o2 b2 C hc1 i2 ik
      go_wp2
      go_loopw [5] (fun v5 wr => Below w.heap.size w wr ∧ CB wr 30 g (blC b (.slice a0 P c0) (.slice a1 N c1)) ∧ Hs wr (.slice a2 N c2) l ∧ ∃ i : Nat, i ≤ N ∧ v5 = .int .i64 (i : Int) ∧ UnlikeH (l.take i))
        (fun v _ => N - (RowKit.intOf v).toNat)
      case atStart => exact ⟨BB.out, KB.out, HS.out, 0, Nat.zero_le _, rfl, List.Pairwise.nil⟩
      case round =>
        obtain ⟨hb, hkb, hsl, i, hi, rfl, hu⟩ := hrel
        replace BB := Lib.hid hb
        replace KB := Lib.hid hkb
        replace HS := Lib.hid hsl
        have HU := Lib.hid hu
        clear hb hkb hsl hu
        by_cases hlt : i < N
        · obtain ⟨xi, hx⟩ : ∃ z, l[i]? = some z := ⟨_, List.getElem?_eq_getElem (by rw [HL.out.2.1]; exact hlt)⟩
          obtain ⟨ad, c, he⟩ := HS.out.isSome HL.out.2.1 (by omega)
          simp only [Value.slice.injEq, true_and] at he
          obtain ⟨rfl, rfl⟩ := he
          have HXI := Lib.hid (And.intro hx (HL.out.1.get hx))
          have ii : (i : Int) < (N : Int) := by omega
          have HK := Lib.hid hlt
          clear hx hlt hi
          go_wp2
          go_loopw [6] (fun v6 wr => Below w.heap.size w wr ∧ CB wr 30 g (blC b (.slice a0 P c0) (.slice a1 N c1)) ∧ Hs wr (.slice (some ad) N c2) l ∧ ∃ j : Nat, j ≤ i ∧ v6 = .int .i64 (j : Int) ∧ inSetH (l.take j) xi = false)
            (fun v _ => i - (RowKit.intOf v).toNat)
          case atStart => exact ⟨BB.out, KB.out, HS.out, 0, Nat.zero_le _, rfl, rfl⟩
          case round =>
            obtain ⟨hb, hkb, hsl, j, hj, rfl, hin⟩ := hrel
            replace BB := Lib.hid hb
            replace KB := Lib.hid hkb
            replace HS := Lib.hid hsl
            have IN := Lib.hid hin
            clear hb hkb hsl hin
            have bi' : (i : Int) ≤ 9223372036854775807 := by omega
            by_cases hlt : j < i
            · obtain ⟨yj, hy⟩ : ∃ z, l[j]? = some z := ⟨_, List.getElem?_eq_getElem (by rw [HL.out.2.1]; have := HK.out; omega)⟩
              have HY := Lib.hid (And.intro hy (HL.out.1.get hy))
              obtain ⟨S, hS0⟩ : ∃ S, S = (xi == yj) := ⟨_, rfl⟩
              have HSS := Lib.hid hS0
              have ij : (j : Int) < (i : Int) := by omega
              have ijN : (j : Int) < (N : Int) := by have := HK.out; omega
              have HK2 := Lib.hid hlt
              have hS : Hid (Hs wr.drew (.slice (some ad) N c2) l) := Lib.hid (HS.out.fresh (Below.refl _ wr).drew)
              clear hy hS0 hlt hj
              go_wp2_with fail
              refine pl_start 9 rfl (fun w' => Hs w' (.slice (some ad) N c2) l) (by kernel_rfl) ?_
              refine pl_take (i := 0) 44 rfl rfl rfl (by kernel_rfl) (by kernel_rfl) (by kernel_rfl) (by simp [Act.put]) hS.out ?_
              apply Exists.intro
              refine And.intro (fun w' hS' => ?_) ?_
              · go_wp2
                first
                  | exact ⟨trivial, rfl⟩
                  | exact rfl
              refine pl_take (i := 1) 45 rfl rfl rfl (by kernel_rfl) (by kernel_rfl) (by kernel_rfl) (by simp [Act.put]) hS.out ?_
              apply Exists.intro
              refine And.intro (fun w' hS' => ?_) ?_
              · go_wp2
                first
                  | exact ⟨trivial, rfl⟩
                  | exact rfl
              refine pl_take (i := 2) 46 rfl rfl rfl (by kernel_rfl) (by kernel_rfl) (by kernel_rfl) (by simp [Act.put]) hS.out ?_
              apply Exists.intro
              refine And.intro (fun w' hS' => ?_) ?_
              · clear hS'
                go_wp2
                first
                  | exact ⟨trivial, rfl⟩
                  | exact rfl
              refine pl_take (i := 3) 47 rfl rfl rfl (by kernel_rfl) (by kernel_rfl) (by kernel_rfl) (by simp [Act.put]) hS.out ?_
              apply Exists.intro
              refine And.intro (fun w' hS' => ?_) ?_
              · refine wpList_load_agg rfl 24 (.tmp 46) rfl (ad.add (i * 32)) rfl (bvs xi) _ (hS'.elem' HXI.out.1) Try.underlying24 rfl (by rw [bvs_length, HXI.out.2]; exact infoHash) ?_
                go_wp2
                exact ⟨trivial, rfl⟩
              refine pl_take (i := 4) 48 rfl rfl rfl (by kernel_rfl) (by kernel_rfl) (by kernel_rfl) (by simp [Act.put]) hS.out ?_
              apply Exists.intro
              refine And.intro (fun w' hS' => ?_) ?_
              · go_wp2
                first
                  | exact ⟨trivial, rfl⟩
                  | exact rfl
              refine pl_take (i := 5) 49 rfl rfl rfl (by kernel_rfl) (by kernel_rfl) (by kernel_rfl) (by simp [Act.put]) hS.out ?_
              apply Exists.intro
              refine And.intro (fun w' hS' => ?_) ?_
              · go_wp2
                first
                  | exact ⟨trivial, rfl⟩
                  | exact rfl
              refine pl_take (i := 6) 50 rfl rfl rfl (by kernel_rfl) (by kernel_rfl) (by kernel_rfl) (by simp [Act.put]) hS.out ?_
              apply Exists.intro
              refine And.intro (fun w' hS' => ?_) ?_
              · clear hS'
                go_wp2
                first
                  | exact ⟨trivial, rfl⟩
                  | exact rfl
              refine pl_take (i := 7) 51 rfl rfl rfl (by kernel_rfl) (by kernel_rfl) (by kernel_rfl) (by simp [Act.put]) hS.out ?_
              apply Exists.intro
              refine And.intro (fun w' hS' => ?_) ?_
              · refine wpList_load_agg rfl 24 (.tmp 50) rfl (ad.add (j * 32)) rfl (bvs yj) _ (hS'.elem' HY.out.1) Try.underlying24 rfl (by rw [bvs_length, HY.out.2]; exact infoHash) ?_
                go_wp2
                exact ⟨trivial, rfl⟩
              refine pl_take (i := 8) 52 rfl rfl rfl (by kernel_rfl) (by kernel_rfl) (by kernel_rfl) (by simp [Act.put]) hS.out ?_
              apply Exists.intro
              refine And.intro (fun w' hS' => ?_) ?_
              · refine wpList_bin rfl .eql 24 24 (.tmp 47) (.tmp 51) rfl (.bool S) (eqGuard_agg _ _ _ _ _ _ _ (by kernel_rfl)) ((hash_eq w' xi yj HXI.out.2 HY.out.2).trans (by rw [HSS.out])) ?_
                clear hS'
                go_wp2
                exact ⟨trivial, rfl⟩
              refine pl_done (by kernel_rfl) ?_
              have BD := Lib.hid BB.out.drew
              have KD := Lib.hid KB.out.drew
              cases S
              · have Q := Lib.hid (inSetH_next HY.out.1 IN.out (by rw [sameHh]; simpa using HSS.out.symm))
                go_wp2
                go_roundw
                case rel => exact ⟨BD.out, KD.out, hS.out, j + 1, HK2.out, by go_num, Q.out⟩
                case measure => simp only [RowKit.intOf]; have := HK2.out; omega
              · have hr : Hid (R = 7) := Lib.hid (by
                  have e : bE3 b = 7 := by
                    unfold bE3
                    rw [if_neg (by
                      rw [← HL.out.2.2]
                      exact unlikeH_not HXI.out.1 (inSetH_of HY.out.1 HK2.out (by rw [sameHh]; simpa using HSS.out.symm)))]
                  rw [HR.out, blockE, hE1.out, hE2.out, e]; rfl)
                go_wp2
                go_ret
                exact ⟨by rw [hr.out] <;> rfl, BD.out⟩
            · have ij : ¬ ((j : Int) < (i : Int)) := by omega
              have hji : j = i := by omega
              subst hji
              have Q := Lib.hid (unlikeH_next HXI.out.1 HU.out IN.out)
              clear hlt hj
              go_wp2
              go_roundw
              case rel => exact ⟨BB.out, KB.out, HS.out, j + 1, HK.out, by go_num, Q.out⟩
              case measure => simp only [RowKit.intOf]; have := HK.out; omega
        · have ii : ¬ ((i : Int) < (N : Int)) := by omega
          have hE3 : Hid (bE3 b = 0) := Lib.hid (by
            have h := HU.out
            rw [List.take_of_length_le (by rw [HL.out.2.1]; omega)] at h
            unfold bE3
            rw [← HL.out.2.2, if_pos h])
          clear hlt hi HU
          have C := rroot_any wr.drew (.slice a2 N c2) l (HS.out.fresh (Below.refl _ wr).drew) (by rw [HL.out.2.1]; exact HN.out.2.2.2)
          obtain ⟨Z, hZ⟩ : ∃ Z, Z = rootB l := ⟨_, rfl⟩
          have HZ : Hid (Z.length = 32 ∧ Z = rootB (b.txs.map idB)) := Lib.hid ⟨by rw [hZ]; exact topB_length _ _, by rw [hZ, HL.out.2.2]⟩
          rw [← hZ] at C
          replace C := Lib.hid C
          have hS : Hid (CB wr.drew 30 g (blC b (.slice a0 P c0) (.slice a1 N c1))) := Lib.hid KB.out.drew
          have BD := Lib.hid BB.out.drew
          clear hZ
          go_wp2_with fail
          refine pl_start 6 rfl (fun w' => CB w' 30 g (blC b (.slice a0 P c0) (.slice a1 N c1))) (by kernel_rfl) ?_
          refine pl_take (i := 0) 53 rfl rfl rfl (by kernel_rfl) (by kernel_rfl) (by kernel_rfl) (by simp [Act.put]) hS.out ?_
          apply Exists.intro
          refine And.intro (fun w' hS' => ?_) ?_
          · go_wp2
            first
              | exact ⟨trivial, rfl⟩
              | exact rfl
          refine pl_take (i := 2) 55 rfl rfl rfl (by kernel_rfl) (by kernel_rfl) (by kernel_rfl) (by simp [Act.put]) hS.out ?_
          apply Exists.intro
          refine And.intro (fun w' hS' => ?_) ?_
          · go_wp2
            first
              | exact ⟨trivial, rfl⟩
              | exact rfl
          refine pl_take (i := 3) 56 rfl rfl rfl (by kernel_rfl) (by kernel_rfl) (by kernel_rfl) (by simp [Act.put]) hS.out ?_
          apply Exists.intro
          refine And.intro (fun w' hS' => ?_) ?_
          · go_wp2
            first
              | exact ⟨trivial, rfl⟩
              | exact rfl
          refine pl_take (i := 4) 57 rfl rfl rfl (by kernel_rfl) (by kernel_rfl) (by kernel_rfl) (by simp [Act.put]) hS.out ?_
          apply Exists.intro
          refine And.intro (fun w' hS' => ?_) ?_
          · have hr := (hd_at (At.pre (At.block hS')) HOK.out).2.1
            refine wpList_load_agg rfl 24 (.tmp 56) rfl ⟨g, 1, none⟩ rfl (bvs b.hd.root) _ hr.load Try.underlying24 rfl (by rw [bvs_length, HOK.out.1]; exact infoHash) ?_
            clear hS' hr
            go_wp2
            exact ⟨trivial, rfl⟩
          refine pl_heavy (i := 1) rfl (by kernel_rfl) ?_
          go_wp2_with fail
          refine (C.out).mono ?_
          rintro e w2 ⟨rfl, b2⟩
          replace hS := Lib.hid (hS.out.fresh b2)
          replace BD := Lib.hid (BD.out.tr b2)
          clear b2 C
          go_wp2
          refine And.intro hS.out ?_
          refine pl_take (i := 5) 58 rfl rfl rfl (by kernel_rfl) (by kernel_rfl) (by kernel_rfl) (by simp [Act.put]) hS.out ?_
          apply Exists.intro
          refine And.intro (fun w' hS' => ?_) ?_
          · refine wpList_bin rfl .neq 24 24 (.tmp 54) (.tmp 57) rfl (.bool (Z != b.hd.root)) (eqGuard_agg _ _ _ _ _ _ _ (by kernel_rfl)) (hash_ne w' Z b.hd.root HZ.out.1 HOK.out.1) ?_
            clear hS'
            go_wp2
            exact ⟨trivial, rfl⟩
          refine pl_done (by kernel_rfl) ?_
          cases hq : (Z != b.hd.root)
          · have hr : Hid (R = 0) := Lib.hid (by
              have e : bE4 b = 0 := by unfold bE4; rw [← HZ.out.2, if_pos (by simpa using hq)]
              rw [HR.out, blockE, hE1.out, hE2.out, hE3.out, e]; rfl)
            clear hq
            go_wp2
            go_ret
            exact ⟨by rw [hr.out] <;> rfl, BD.out⟩
          · have hr : Hid (R = 11) := Lib.hid (by
              have e : bE4 b = 11 := by unfold bE4; rw [← HZ.out.2, if_neg (by simpa using hq)]
              rw [HR.out, blockE, hE1.out, hE2.out, hE3.out, e]; rfl)
            clear hq
            go_wp2
            go_ret
            exact ⟨by rw [hr.out] <;> rfl, BD.out⟩

end Go.Proofs.Ytkbahhnjoidhcaa

/- The reference's HeaderBytes: the walk. -/
namespace Go.Proofs.Ytkbahhnjoidhcaa
set_option linter.unusedVariables false
set_option linter.unusedSimpArgs false
open Go.RowKit

/-- A slice literal of values of one size: its block. -/
theorem wpList_buildC {ops : Array Oper} {rest : List Oper} {o : Oper} {a : Act} {w : World} {Q : Exit → Act → World → Prop} (hgd : o.guard = none) (t e : TypeId) (len : Nat) (parts : Array (Nat × Operand)) (ho : o.op = .buildSlice t len parts)
    (ht : Try.prog.underlying t = some (.slice e)) (s : Nat) (z : Value) (hinfo : (Try.prog.info? e).map (fun i => (i.zero, i.size)) = some (some z, s)) (hs : 0 < s) (hsm : len * s ≤ 16777216) (hpos : 0 < len)
    (cs : List (List Value)) (hcs : ∀ c ∈ cs, c.length = s) (hlen : cs.length = len)
    (hp : (parts.map fun (i, x) => (i, a.eval x)).toList = ((cs.map fun c => Value.agg c.toArray).zipIdx 0).map fun x => (x.2, x.1))
    (h : ∀ w', CB w' e w.heap.size cs.flatten → Below w.heap.size w w' → w'.heap.size = w.heap.size + 1 → wpList Try.prog ops Q rest (a.put o.dst (.slice (some ⟨w.heap.size, 0, none⟩) len len)) w') : wpList Try.prog ops Q (o :: rest) a w := by
  obtain ⟨i0, hi, hzz⟩ := Option.map_eq_some_iff.1 hinfo
  simp only [Prod.mk.injEq] at hzz
  obtain ⟨hz0, hz1⟩ := hzz
  have hfl : ∀ l : List (List Value), (l.map fun c => Value.agg c.toArray).flatMap (fun v => v.cells.toList) = l.flatten := fun l => by
    induction l with
    | nil => rfl
    | cons x l ih => rw [List.map_cons, List.flatMap_cons, ih, List.flatten_cons]; rfl
  have hps : 0 < len * s := Nat.mul_pos hpos hs
  refine wpList_buildSlice hgd t e len parts ho cs.flatten.toArray i0 _ ht hi hz0 (by rw [hz1]; omega) (by rw [hz1]; omega) ?_ ?_
  · rw [hp, hz1, Great.fill_whole hs _ _ ?_ ?_, hfl]
    · intro v hv
      obtain ⟨x, hx, rfl⟩ := List.mem_map.1 hv
      simp [Value.cells, hcs x hx]
    · simp [hlen]
  · exact h _ (CB.new w e cs.flatten) ((Below.refl _ w).alloc (Nat.le_refl _) _) (Array.size_push _)

theorem infoA32 : (Try.prog.info? 23).map (fun i => (i.zero, i.size)) = some (some (.agg (bvs (List.replicate 32 0)).toArray), 32) := by kernel_rfl

theorem four_cells {l : List Bs} (h : H32 l) {k : Nat} {y : Bs} (hy : l[k]? = some y) {w : World} {e : TypeId} {g : Nat} (hc : CB w e g (l.flatMap bvs)) : Rd w 1 (.slice (some ((⟨g, 0, none⟩ : Addr).add (k * 32))) 32 32) 32 (bvs y) := by
  have hl : ∀ x ∈ l, (bvs x).length = 32 := fun x hx => by rw [bvs_length]; exact h x hx
  refine ⟨by rw [bvs_length, h.get hy], .inr ⟨_, _, rfl, Nat.le_refl _, by decide, fun j u hj => ?_⟩⟩
  rw [add_at, add_at, Nat.zero_add]
  exact hc.cell _ _ (flat_get bvs 32 l hl hy j u hj)

set_option maxRecDepth 100000 in
set_option maxHeartbeats 4000000 in
theorem rhdbytes_any (w : World) (x : HdD) (v : Value) (hx : HdOk x) (hv : Hs w v x.par) (hn : 0 ≤ x.nonce ∧ x.nonce < 18446744073709551616) (hp : x.par.length ≤ 255) :
    Calls Try.prog 82 #[.agg (hdC x v).toArray] w fun e w' => ∃ v' : Value, e = .returned v' ∧ w'.ownsRow w.heap.size 5 1 v' (hdB x).length (bvs (hdB x)) ∧ Below w.heap.size w w' := by
  obtain ⟨i0, hi0, hz0, hz1, hz2⟩ := info_parts infoU8
  have HU := Lib.hid (And.intro hi0 (And.intro hz0 (And.intro hz1 hz2)))
  clear hi0 hz0 hz1 hz2
  obtain ⟨a0, c0, rfl⟩ := hv.slice
  obtain ⟨N, hN⟩ : ∃ N, N = x.par.length := ⟨_, rfl⟩
  rw [← hN] at hv hp ⊢
  have bN' : (N : Int) ≤ 9223372036854775807 := by omega
  obtain ⟨mm, hmm⟩ := Int.eq_ofNat_of_zero_le hn.1
  have HM : Hid (x.nonce.toNat = mm ∧ mm < 18446744073709551616 ∧ x.nonce = (mm : Int)) := Lib.hid ⟨by omega, by omega, hmm⟩
  obtain ⟨X, hX⟩ : ∃ X, X = hdC x (.slice a0 N c0) := ⟨_, rfl⟩
  rw [← hX]
  have HX := Lib.hid hX
  have HN := Lib.hid (And.intro hN hp)
  have HV := Lib.hid hv
  have HOK := Lib.hid hx
  have HFL : Hid (∀ k, (x.par.take k).flatten.length ≤ 255 * 32) := Lib.hid (fun k => by
    have h1 : H32 (x.par.take k) := hv.1.take k
    rw [h1.flat, List.length_take]
    omega)
  clear hX hN hp hv hx hn hmm
  go_enter Try.func82, Try.ntmps82
  go_wp2_with (with_reducible refine stopAt 7 ?_)
  refine Stop.go ?_
  obtain ⟨w1, hw1, k1, b1, s1⟩ := alloc_cb w 27 X
  change wpList _ _ _ _ _ (w.alloc (.cells X.toArray 27))
  rw [← hw1]
  rw [HX.out] at k1
  have K1 : Hid (CB w1 27 w.heap.size (hdC x (.slice a0 N c0))) := Lib.hid k1
  have BB := Lib.hid b1
  have S1 := Lib.hid s1
  have hc0 := hd_cell (At.block k1)
  clear hw1 k1 b1 s1
  go_wp2_with fail
  refine (rnum2 w1 N (by have := HN.out.2; omega)).mono ?_
  rintro e w2 ⟨a, c, rfl, r2, o2, b2⟩
  have OB : Hid (w2.ownsRow (w.heap.size + 1) 5 1 (.slice a 2 c) 2 (bvs (le N 2))) := Lib.hid (by rw [S1.out] at o2; exact o2)
  replace K1 := Lib.hid (K1.out.fresh b2)
  replace BB := Lib.hid (BB.out.tr b2)
  clear o2 r2 b2 hc0 S1
  go_wp2
  go_loopw [3, 4] (fun v3 v4 wr => Below w.heap.size w wr ∧ CB wr 27 w.heap.size (hdC x (.slice a0 N c0)) ∧ ∃ (k n : Nat) (a : Option Addr) (c : Nat), k ≤ N ∧ v4 = .int .i64 (k : Int) ∧ v3 = .slice a n c ∧ wr.ownsRow (w.heap.size + 1) 5 1 (.slice a n c) n (bvs (le N 2 ++ (x.par.take k).flatten)))
    (fun _ v _ => N - (RowKit.intOf v).toNat)
  case atStart => exact ⟨BB.out, K1.out, 0, 2, a, c, Nat.zero_le _, rfl, rfl, by simpa using OB.out⟩
  case round =>
    clear OB
    obtain ⟨hb, hk1, k, n, a, c, hk, rfl, rfl, how⟩ := hrel
    replace BB := Lib.hid hb
    replace K1 := Lib.hid hk1
    have OB := Lib.hid how
    have hn : n = (le N 2 ++ (x.par.take k).flatten).length := by
      have h := how.1
      rw [bvs_length] at h
      omega
    have Hn : Hid (n ≤ 20000) := Lib.hid (by rw [hn, List.length_append, le_len]; have := HFL.out k; omega)
    have Hq : Hid ((0 : Nat) ≤ 260) := Lib.hid (by omega)
    clear hb hk1 how hn
    have hc0 := hd_cell (At.block K1.out)
    have L1 : Hid (w.heap.size + 1 ≤ wr.heap.size) := Lib.hid (K1.out.lt)
    by_cases hlt : k < N
    · obtain ⟨xk, hx⟩ : ∃ z, x.par[k]? = some z := ⟨_, List.getElem?_eq_getElem (by rw [← HN.out.1]; exact hlt)⟩
      obtain ⟨ad, cx, he⟩ := HV.out.isSome HN.out.1.symm (by omega)
      simp only [Value.slice.injEq, true_and] at he
      obtain ⟨rfl, rfl⟩ := he
      have HXK := Lib.hid hx
      have HRD := Lib.hid ((HV.out.fresh BB.out).rd hx)
      have ik : (k : Int) < (N : Int) := by omega
      have HK := Lib.hid hlt
      clear hx hlt hk
      go_wp2_with (at_builtin; apply Stop.mk)
      refine Stop.go ?_
      refine wpList_append_rd _ rfl (.tmp 19) (.tmp 24) 42 rfl (w.heap.size + 1) 5 i0 (.int .u8 0) 1 1 Try.underlying42 HU.out.1 HU.out.2.1 HU.out.2.2.1 HU.out.2.2.2 rfl (by decide) (.slice a n c) (n) _ rfl OB.out (.slice (some (ad.add (k * 32))) 32 32) (32) _ rfl (HRD.out) (bvs_one _) (by unfold maxLen; have := Hn.out; have := Hq.out; omega) (by have := Hn.out; have := Hq.out; omega) L1.out ?_
      rintro v' w7 o' g' _ _
      obtain ⟨a', c', rfl⟩ := (Rd.of_own o').slice
      rw [← bvs_append] at o'
      have hgr := fun (j : Nat) hj => (OB.out.lt j hj).1
      have BB7 := Lib.hid (Below.grown BB.out g' BB.out.size (fun j hj => by have := hgr j hj; omega))
      have K17 := Lib.hid (K1.out.grownT g' (fun e => by have := hgr _ e; omega))
      have OB7 := Lib.hid o'
      have L7 : Hid (w.heap.size + 1 ≤ (w7).heap.size) := Lib.hid (K17.out.lt)
      have Q : Hid (w7.ownsRow (w.heap.size + 1) 5 1 (.slice a' (n + 32) c') (n + 32) (bvs (le N 2 ++ (x.par.take (k + 1)).flatten))) := Lib.hid (by
        have e : (le N 2 ++ (x.par.take k).flatten) ++ xk = le N 2 ++ (x.par.take (k + 1)).flatten := by
          rw [List.take_add_one, HXK.out, Option.toList, List.flatten_append]
          simp
        rw [← e]
        exact OB7.out)
      clear o' g' hgr OB7 hc0
      go_wp2
      go_roundw
      case rel => exact ⟨BB7.out, K17.out, k + 1, _, a', c', HK.out, by go_num, rfl, Q.out⟩
      case measure => simp only [RowKit.intOf]; have := HK.out; omega
    · have ik : ¬ ((k : Int) < (N : Int)) := by omega
      obtain ⟨L0, hL0⟩ : ∃ L, L = le N 2 ++ x.par.flatten := ⟨_, rfl⟩
      have HL0 := Lib.hid hL0
      replace OB : Hid (wr.ownsRow (w.heap.size + 1) 5 1 (.slice a n c) n (bvs L0)) := Lib.hid (by
        have h := OB.out
        rwa [List.take_of_length_le (by rw [← HN.out.1]; omega), ← hL0] at h)
      have AA := Lib.hid (hd_at (At.block K1.out) HOK.out)
      clear hlt hk hL0
      obtain ⟨n0, hn0⟩ : ∃ m, m = n := ⟨_, rfl⟩
      rw [← hn0] at OB Hn ⊢
      have HN0 : Hid (n0 = L0.length ∧ n0 ≤ 20000) := Lib.hid ⟨by have h := OB.out.1; rw [bvs_length] at h; omega, Hn.out⟩
      clear hn0
      go_wp2_with (with_reducible refine stopAt 27 ?_)
      refine Stop.go ?_
      refine wpList_load_agg rfl 24 (.tmp 26) rfl (⟨w.heap.size, 1, none⟩) rfl (bvs x.root) _ (AA.out.2.1.load) Try.underlying24 rfl (by rw [bvs_length, HOK.out.1]; exact infoHash) ?_
      go_wp2_with (with_reducible refine stopAt 29 ?_)
      refine Stop.go ?_
      refine wpList_load_agg rfl 24 (.tmp 28) rfl (⟨w.heap.size, 33, none⟩) rfl (bvs x.acc) _ (AA.out.2.2.1.load) Try.underlying24 rfl (by rw [bvs_length, HOK.out.2.1]; exact infoHash) ?_
      go_wp2_with (with_reducible refine stopAt 31 ?_)
      refine Stop.go ?_
      refine wpList_load_agg rfl 24 (.tmp 30) rfl (⟨w.heap.size, 65, none⟩) rfl (bvs x.coins) _ (AA.out.2.2.2.1.load) Try.underlying24 rfl (by rw [bvs_length, HOK.out.2.2.1]; exact infoHash) ?_
      go_wp2_with (with_reducible refine stopAt 33 ?_)
      refine Stop.go ?_
      refine wpList_load_agg rfl 24 (.tmp 32) rfl (⟨w.heap.size, 97, none⟩) rfl (bvs x.miner) _ (AA.out.2.2.2.2.1.load) Try.underlying24 rfl (by rw [bvs_length, HOK.out.2.2.2]; exact infoHash) ?_
      go_wp2_with (with_reducible refine stopAt 34 ?_)
      refine Stop.go ?_
      refine wpList_buildC rfl 137 23 4 _ rfl Try.underlying137 32 _ infoA32 (by decide) (by decide) (by decide) [bvs x.root, bvs x.acc, bvs x.coins, bvs x.miner] (by intro c hc; simp only [List.mem_cons, List.not_mem_nil, or_false] at hc; rcases hc with rfl | rfl | rfl | rfl <;> rw [bvs_length]; exact HOK.out.1; exact HOK.out.2.1; exact HOK.out.2.2.1; exact HOK.out.2.2.2) rfl (by kernel_rfl) ?_
      intro w3 k3 b3 s3
      obtain ⟨l, hl⟩ : ∃ l, l = [x.root, x.acc, x.coins, x.miner] := ⟨_, rfl⟩
      have k3' : CB w3 23 wr.heap.size (l.flatMap bvs) := by rw [hl]; exact k3
      have HL : Hid (H32 l ∧ l.length = 4 ∧ l.flatten = x.root ++ (x.acc ++ (x.coins ++ x.miner))) := Lib.hid ⟨by
        rw [hl]
        intro c hc
        simp only [List.mem_cons, List.not_mem_nil, or_false] at hc
        rcases hc with rfl | rfl | rfl | rfl
        · exact HOK.out.1
        · exact HOK.out.2.1
        · exact HOK.out.2.2.1
        · exact HOK.out.2.2.2, by rw [hl]; rfl, by rw [hl]; simp⟩
      obtain ⟨gq, hgq⟩ : ∃ g, g = wr.heap.size := ⟨_, rfl⟩
      rw [← hgq] at k3' ⊢
      have K3 := Lib.hid k3'
      replace K1 := Lib.hid (K1.out.fresh b3)
      replace BB := Lib.hid (BB.out.tr b3)
      replace OB := Lib.hid (own_fresh OB.out b3)
      obtain ⟨A, hA⟩ : ∃ A : Addr, A = ⟨gq, 0, none⟩ := ⟨_, rfl⟩
      rw [← hA]
      have HA := Lib.hid hA
      clear k3 k3' b3 s3 hl hgq hA AA hc0 L1 ik Hn
      go_wp2
      go_loopw [3, 6] (fun v3 v6 wr => Below w.heap.size w wr ∧ CB wr 27 w.heap.size (hdC x (.slice a0 N c0)) ∧ CB wr 23 gq (l.flatMap bvs) ∧ ∃ (k n : Nat) (a : Option Addr) (c : Nat), k ≤ 4 ∧ v6 = .int .i64 (k : Int) ∧ v3 = .slice a n c ∧ wr.ownsRow (w.heap.size + 1) 5 1 (.slice a n c) n (bvs (L0 ++ (l.take k).flatten)))
        (fun _ v _ => 4 - (RowKit.intOf v).toNat)
      case atStart => exact ⟨BB.out, K1.out, K3.out, 0, n0, a, c, Nat.zero_le _, rfl, rfl, by simpa using OB.out⟩
      case round =>
        clear OB
        obtain ⟨hb, hk1, hk3, k, n, a, c, hk, rfl, rfl, how⟩ := hrel
        replace BB := Lib.hid hb
        replace K1 := Lib.hid hk1
        replace K3 := Lib.hid hk3
        have OB := Lib.hid how
        have hn : n = (L0 ++ (l.take k).flatten).length := by
          have h := how.1
          rw [bvs_length] at h
          omega
        have Hn : Hid (n ≤ 30000) := Lib.hid (by
          have h1 : H32 (l.take k) := HL.out.1.take k
          rw [hn, List.length_append, h1.flat, List.length_take]
          have := HN0.out
          omega)
        clear hb hk1 hk3 how hn
        have L1 : Hid (w.heap.size + 1 ≤ wr.heap.size) := Lib.hid (K1.out.lt)
        by_cases hlt : k < 4
        · obtain ⟨y, hy⟩ : ∃ z, l[k]? = some z := ⟨_, List.getElem?_eq_getElem (by rw [HL.out.2.1]; exact hlt)⟩
          have HY := Lib.hid hy
          have HRD : Hid (Rd wr 1 (.slice (some (A.add (k * 32))) 32 32) 32 (bvs y)) := Lib.hid (by rw [HA.out]; exact four_cells HL.out.1 hy K3.out)
          have ik : (k : Int) < 4 := by omega
          have HK := Lib.hid hlt
          clear hy hlt hk
          go_wp2_with (at_builtin; apply Stop.mk)
          refine Stop.go ?_
          refine wpList_append_rd _ rfl (.tmp 39) (.tmp 43) 42 rfl (w.heap.size + 1) 5 i0 (.int .u8 0) 1 1 Try.underlying42 HU.out.1 HU.out.2.1 HU.out.2.2.1 HU.out.2.2.2 rfl (by decide) (.slice a n c) (n) _ rfl OB.out (.slice (some (A.add (k * 32))) 32 32) (32) _ rfl (HRD.out) (bvs_one _) (by unfold maxLen; have := Hn.out; have := Hq.out; omega) (by have := Hn.out; have := Hq.out; omega) L1.out ?_
          rintro v' w7 o' g' _ _
          obtain ⟨a', c', rfl⟩ := (Rd.of_own o').slice
          rw [← bvs_append] at o'
          have hgr := fun (j : Nat) hj => (OB.out.lt j hj).1
          have BB7 := Lib.hid (Below.grown BB.out g' BB.out.size (fun j hj => by have := hgr j hj; omega))
          have K17 := Lib.hid (K1.out.grownT g' (fun e => by have := hgr _ e; omega))
          have OB7 := Lib.hid o'
          have L7 : Hid (w.heap.size + 1 ≤ (w7).heap.size) := Lib.hid (K17.out.lt)
          have K37 := Lib.hid (K3.out.grownT g' (cb_ne OB.out K3.out (by decide)))
          have Q : Hid (w7.ownsRow (w.heap.size + 1) 5 1 (.slice a' (n + 32) c') (n + 32) (bvs (L0 ++ (l.take (k + 1)).flatten))) := Lib.hid (by
            have e : (L0 ++ (l.take k).flatten) ++ y = L0 ++ (l.take (k + 1)).flatten := by
              rw [List.take_add_one, HY.out, Option.toList, List.flatten_append]
              simp
            rw [← e]
            exact OB7.out)
          clear o' g' hgr OB7
          go_wp2
          go_roundw
          case rel => exact ⟨BB7.out, K17.out, K37.out, k + 1, _, a', c', HK.out, by go_num, rfl, Q.out⟩
          case measure => simp only [RowKit.intOf]; have := HK.out; omega
        · have ik : ¬ ((k : Int) < 4) := by omega
          replace OB : Hid (wr.ownsRow (w.heap.size + 1) 5 1 (.slice a n c) n (bvs (L0 ++ l.flatten))) := Lib.hid (by
            have h := OB.out
            rwa [List.take_of_length_le (by rw [HL.out.2.1]; omega)] at h)
          have hcn := (hd_at (At.block K1.out) HOK.out).2.2.2.2.2.cell0'
          rw [HM.out.2.2] at hcn
          clear hlt hk
          go_wp2_with fail
          refine (rnum8 wr mm HM.out.2.1).mono ?_
          rintro e w7 ⟨a7, c7, rfl, r7, _, b7⟩
          have R7 := Lib.hid r7
          have BB7 := Lib.hid (BB.out.tr b7)
          have K17 := Lib.hid (K1.out.fresh b7)
          have OB7 := Lib.hid (own_fresh OB.out b7)
          have L7 : Hid (w.heap.size + 1 ≤ w7.heap.size) := Lib.hid (K17.out.lt)
          clear r7 b7 hcn
          go_wp2_with (at_builtin; apply Stop.mk)
          refine Stop.go ?_
          refine wpList_append_rd _ rfl (.tmp 45) (.tmp 48) 42 rfl (w.heap.size + 1) 5 i0 (.int .u8 0) 1 1 Try.underlying42 HU.out.1 HU.out.2.1 HU.out.2.2.1 HU.out.2.2.2 rfl (by decide) (.slice a n c) (n) _ rfl OB7.out (.slice a7 8 c7) (8) _ rfl (R7.out) (bvs_one _) (by unfold maxLen; have := Hn.out; have := Hq.out; omega) (by have := Hn.out; have := Hq.out; omega) L7.out ?_
          rintro v' w8 o' g' _ _
          obtain ⟨a', c', rfl⟩ := (Rd.of_own o').slice
          rw [← bvs_append] at o'
          have hgr := fun (j : Nat) hj => (OB7.out.lt j hj).1
          have BB8 := Lib.hid (Below.grown BB7.out g' BB7.out.size (fun j hj => by have := hgr j hj; omega))
          have K18 := Lib.hid (K17.out.grownT g' (fun e => by have := hgr _ e; omega))
          have OB8 := Lib.hid o'
          have L8 : Hid (w.heap.size + 1 ≤ (w8).heap.size) := Lib.hid (K18.out.lt)
          have e9 : (L0 ++ l.flatten) ++ le mm 8 = hdB x := by
            rw [HL0.out, HL.out.2.2]
            unfold hdB
            rw [HM.out.1, ← HN.out.1]
            simp
          have hl9 : n + 8 = (hdB x).length := by
            have h := OB8.out.1
            rw [bvs_length, e9] at h
            omega
          have Q : Hid (w8.ownsRow w.heap.size 5 1 (.slice a' (n + 8) c') (hdB x).length (bvs (hdB x))) := Lib.hid (by
            have h := own_lower' OB8.out (Nat.le_succ _)
            rw [e9, hl9] at h
            rw [hl9]
            exact h)
          clear o' g' hgr e9 hl9 OB8
          go_wp2
          go_ret
          exact ⟨_, rfl, Q.out, BB8.out⟩

end Go.Proofs.Ytkbahhnjoidhcaa

/- The reference's bytes of a block: the walk. -/
namespace Go.Proofs.Ytkbahhnjoidhcaa
set_option linter.unusedVariables false
set_option linter.unusedSimpArgs false
open Go.RowKit

/-- A transaction's bytes, their length ahead; a block's bytes. -/
def tB (x : TxD) : Bs := le (packB x).length 4 ++ packB x
def blockB (b : BlD) : Bs := le (hdB b.hd).length 4 ++ hdB b.hd ++ le b.txs.length 2 ++ b.txs.flatMap tB

theorem hdB_le {x : HdD} (hx : HdOk x) (h : H32 x.par) (hp : x.par.length ≤ 255) : (hdB x).length ≤ 9000 := by
  unfold hdB
  simp only [List.length_append, le_len]
  rw [h.flat, hx.1, hx.2.1, hx.2.2.1, hx.2.2.2]
  omega

theorem txs_le {F : Nat → Prop} {w : World} {v : Value} {l : List TxD} (h : Txs F w v l) (h0 : ∀ x ∈ l, checkE x = 0) : ∀ x ∈ l, (packB x).length ≤ 30000 := by
  obtain ⟨us, h1, h2, h3⟩ := h
  intro x hx
  obtain ⟨i, hi⟩ := List.mem_iff_getElem?.1 hx
  obtain ⟨u, hu⟩ : ∃ z, us[i]? = some z := ⟨_, List.getElem?_eq_getElem (by rw [h1]; exact (List.getElem?_eq_some_iff.1 hi).1)⟩
  have h4 := h3 i x u hi hu
  obtain ⟨vs, q1, q2, q3, q4⟩ := h4.1
  exact packB_le q2 h4.2.1 (check_shape (h0 x hx))

set_option maxRecDepth 100000 in
set_option maxHeartbeats 4000000 in
theorem rbpack_any (F : Nat → Prop) (w : World) (b : BlD) (v t : Value) (hx : HdOk b.hd) (hv : Hs w v b.hd.par) (ht : Txs F w t b.txs) (hwf : ∀ x ∈ b.txs, TxWf x) (hn : 0 ≤ b.hd.nonce ∧ b.hd.nonce < 18446744073709551616) (hp : b.hd.par.length ≤ 255) (hl : b.txs.length ≤ 200) (h0 : ∀ x ∈ b.txs, checkE x = 0) :
    Calls Try.prog 39 #[.agg (blC b v t).toArray] w fun e w' => ∃ v' : Value, e = .returned v' ∧ w'.ownsRow w.heap.size 5 1 v' (blockB b).length (bvs (blockB b)) ∧ Below w.heap.size w w' := by
  obtain ⟨i0, hi0, hz0, hz1, hz2⟩ := info_parts infoU8
  have HU := Lib.hid (And.intro hi0 (And.intro hz0 (And.intro hz1 hz2)))
  clear hi0 hz0 hz1 hz2
  have HSZ := Lib.hid (txs_le ht h0)
  obtain ⟨a1, c1, rfl⟩ := ht.slice
  obtain ⟨N, hN⟩ : ∃ N, N = b.txs.length := ⟨_, rfl⟩
  rw [← hN] at ht hl ⊢
  obtain ⟨X, hX⟩ : ∃ X, X = blC b v (.slice a1 N c1) := ⟨_, rfl⟩
  rw [← hX]
  have HX := Lib.hid hX
  have bN' : (N : Int) ≤ 9223372036854775807 := by omega
  have HOK := Lib.hid hx
  have HV := Lib.hid (And.intro hv (And.intro hn hp))
  have HN := Lib.hid (And.intro hN (And.intro hl (And.intro hwf h0)))
  have HHB := Lib.hid (hdB_le hx hv.1 hp)
  have HFT : Hid (∀ k, ((b.txs.take k).flatMap tB).length ≤ 200 * 30004) := Lib.hid (fun k => by
    have h1 := flatMap_len tB 30004 (b.txs.take k) (fun i hi => by
      unfold tB
      rw [List.length_append, le_len]
      have := HSZ.out i (List.mem_of_mem_take hi)
      omega)
    have h2 : (b.txs.take k).length ≤ 200 := by rw [List.length_take]; omega
    have h3 : (b.txs.take k).length * 30004 ≤ 200 * 30004 := Nat.mul_le_mul_right _ h2
    omega)
  obtain ⟨us, hlu, hru, heu⟩ := ht
  rw [← hN] at hlu hru
  change RdF F w 3 (.slice a1 N c1) N _ at hru
  have HI := Lib.hid hru.1
  have HE := Lib.hid (And.intro hlu heu)
  clear hX hx hv hwf hl hn hp h0 hlu hru heu hN
  go_enter Try.func39, Try.ntmps39
  go_wp2_with (with_reducible refine stopAt 6 ?_)
  refine Stop.go ?_
  obtain ⟨w1, hw1, k1, b1, s1⟩ := alloc_cb w 30 X
  change wpList _ _ _ _ _ (w.alloc (.cells X.toArray 30))
  rw [← hw1]
  rw [HX.out] at k1
  have K1 : Hid (CB w1 30 w.heap.size (blC b v (.slice a1 N c1))) := Lib.hid k1
  have BB := Lib.hid b1
  have S1 := Lib.hid s1
  clear hw1 k1 b1 s1
  have A1 : At w1 w.heap.size 0 (blC b v (.slice a1 N c1)) := At.block K1.out
  unfold blC at A1
  refine wpList_load_agg rfl 27 (.tmp 5) rfl ⟨w.heap.size, 0, none⟩ rfl (hdC b.hd v) _ A1.pre.load Try.underlying27 rfl (by rw [hdC_length HOK.out]; exact infoHd) ?_
  clear A1
  have C := Lib.hid (rhdbytes_any w1 b.hd v HOK.out (HV.out.1.fresh BB.out) HV.out.2.1 HV.out.2.2)
  obtain ⟨Z, hZ⟩ : ∃ Z, Z = hdB b.hd := ⟨_, rfl⟩
  have HZ : Hid (Z = hdB b.hd ∧ Z.length ≤ 9000) := Lib.hid ⟨hZ, by rw [hZ]; exact HHB.out⟩
  rw [← hZ] at C
  clear hZ HHB
  go_wp2_with fail
  refine (C.out).mono ?_
  rintro e w2 ⟨v2, rfl, o2, b2⟩
  have R2 := Lib.hid (Rd.of_own o2)
  replace K1 := Lib.hid (K1.out.fresh b2)
  replace BB := Lib.hid (BB.out.tr b2)
  have L2 : Hid (w.heap.size + 1 ≤ w2.heap.size) := Lib.hid (K1.out.lt)
  clear o2 b2 C
  go_wp2_with fail
  refine (rblob_any w2 v2 Z R2.out (by have := HZ.out.2; omega)).mono ?_
  rintro e w3 ⟨v3, rfl, o3, b3⟩
  obtain ⟨n0, hn0⟩ : ∃ m, m = 4 + Z.length := ⟨_, rfl⟩
  rw [← hn0] at o3
  obtain ⟨a3, c3, rfl⟩ := (Rd.of_own o3).slice
  have OB : Hid (w3.ownsRow (w.heap.size + 1) 5 1 (.slice a3 n0 c3) n0 (bvs (le Z.length 4 ++ Z))) := Lib.hid (own_lower' o3 L2.out)
  have Hn : Hid (n0 ≤ 10000) := Lib.hid (by rw [hn0]; have := HZ.out.2; omega)
  have Hq : Hid ((0 : Nat) ≤ 260) := Lib.hid (by omega)
  replace K1 := Lib.hid (K1.out.fresh b3)
  replace BB := Lib.hid (BB.out.tr b3)
  have hc1 := bl_cell (At.block K1.out) HOK.out
  clear o3 b3 R2 S1 hn0 L2
  go_wp2_with fail
  refine (rnum2 w3 N (by have := HN.out.2.1; omega)).mono ?_
  rintro e w4 ⟨a4, c4, rfl, r4, _, b4⟩
  have R4 := Lib.hid r4
  have BB4 := Lib.hid (BB.out.tr b4)
  have K14 := Lib.hid (K1.out.fresh b4)
  have OB4 := Lib.hid (own_fresh OB.out b4)
  have L4 : Hid (w.heap.size + 1 ≤ w4.heap.size) := Lib.hid (K14.out.lt)
  clear r4 b4
  go_wp2_with (at_builtin; apply Stop.mk)
  refine Stop.go ?_
  refine wpList_append_rd _ rfl (.tmp 9) (.tmp 14) 42 rfl (w.heap.size + 1) 5 i0 (.int .u8 0) 1 1 Try.underlying42 HU.out.1 HU.out.2.1 HU.out.2.2.1 HU.out.2.2.2 rfl (by decide) (.slice a3 n0 c3) (n0) _ rfl OB4.out (.slice a4 2 c4) (2) _ rfl (R4.out) (bvs_one _) (by unfold maxLen; have := Hn.out; have := Hq.out; omega) (by have := Hn.out; have := Hq.out; omega) L4.out ?_
  rintro v' w5 o' g' _ _
  obtain ⟨a', c', rfl⟩ := (Rd.of_own o').slice
  rw [← bvs_append] at o'
  have hgr := fun (j : Nat) hj => (OB4.out.lt j hj).1
  have BB5 := Lib.hid (Below.grown BB4.out g' BB4.out.size (fun j hj => by have := hgr j hj; omega))
  have K15 := Lib.hid (K14.out.grownT g' (fun e => by have := hgr _ e; omega))
  have OB5 := Lib.hid o'
  have L5 : Hid (w.heap.size + 1 ≤ (w5).heap.size) := Lib.hid (K15.out.lt)
  obtain ⟨L0, hL0⟩ : ∃ L, L = (le Z.length 4 ++ Z) ++ le N 2 := ⟨_, rfl⟩
  have HL0 := Lib.hid hL0
  rw [← hL0] at OB5
  obtain ⟨n1, hn1⟩ : ∃ m, m = n0 + 2 := ⟨_, rfl⟩
  rw [← hn1] at OB5 ⊢
  have HN1 : Hid (n1 = L0.length ∧ n1 ≤ 10010) := Lib.hid ⟨by have h := OB5.out.1; rw [bvs_length] at h; omega, by have := Hn.out; omega⟩
  clear o' g' hgr hL0 hn1 OB OB4 BB K1 BB4 K14 L4 hc1 Hn
  go_wp2
  go_loopw [3, 4] (fun v3 v4 wr => Below w.heap.size w wr ∧ CB wr 30 w.heap.size (blC b v (.slice a1 N c1)) ∧ ∃ (k n : Nat) (a : Option Addr) (c : Nat), k ≤ N ∧ v4 = .int .i64 (k : Int) ∧ v3 = .slice a n c ∧ wr.ownsRow (w.heap.size + 1) 5 1 (.slice a n c) n (bvs (L0 ++ (b.txs.take k).flatMap tB)))
    (fun _ v _ => N - (RowKit.intOf v).toNat)
  case atStart => exact ⟨BB5.out, K15.out, 0, n1, a', c', Nat.zero_le _, rfl, rfl, by simpa using OB5.out⟩
  case round =>
    clear OB5 BB5 K15 L5
    obtain ⟨hb, hk1, k, n, a, c, hk, rfl, rfl, how⟩ := hrel
    have BB := Lib.hid hb
    have K1 := Lib.hid hk1
    have OB := Lib.hid how
    have hn : n = (L0 ++ (b.txs.take k).flatMap tB).length := by
      have h := how.1
      rw [bvs_length] at h
      omega
    have Hn : Hid (n ≤ 6100000) := Lib.hid (by rw [hn, List.length_append]; have := HFT.out k; have := HN1.out; omega)
    clear hb hk1 how hn
    have hc1 := bl_cell (At.block K1.out) HOK.out
    by_cases hlt : k < N
    · obtain ⟨xk, hx⟩ : ∃ z, b.txs[k]? = some z := ⟨_, List.getElem?_eq_getElem (by rw [← HN.out.1]; exact hlt)⟩
      obtain ⟨uk, hux⟩ : ∃ z, us[k]? = some z := ⟨_, List.getElem?_eq_getElem (by rw [HE.out.1]; exact hlt)⟩
      obtain ⟨ad, cx, he⟩ := rd_some HI.out (by omega)
      simp only [Value.slice.injEq, true_and] at he
      obtain ⟨rfl, rfl⟩ := he
      have hz : (b.txs.zip us)[k]? = some (xk, uk) := by rw [List.getElem?_zip_eq_some]; exact ⟨hx, hux⟩
      have h9 := HE.out.2 k xk uk hx hux
      have HC := Lib.hid ((HI.out.fresh BB.out).at (fun z _ => rfl) hz)
      have hm := List.mem_of_getElem? hx
      have HXK := Lib.hid hx
      have ik : (k : Int) < (N : Int) := by omega
      have HK := Lib.hid hlt
      have C := rpack_any F wr xk uk (h9.1.fresh BB.out) (h9.2.fresh BB.out) (HN.out.2.2.1 xk hm) (check_shape (HN.out.2.2.2 xk hm))
      obtain ⟨Y, hY⟩ : ∃ Y, Y = packB xk := ⟨_, rfl⟩
      have HY : Hid (Y = packB xk ∧ Y.length ≤ 30000) := Lib.hid ⟨hY, by rw [hY]; exact HSZ.out xk hm⟩
      rw [← hY] at C
      replace C := Lib.hid C
      clear hx hux hz h9 hlt hk hY hm
      go_wp2_with (with_reducible refine stopAt 28 ?_)
      refine Stop.go ?_
      refine wpList_load_agg rfl 37 (.tmp 27) rfl (ad.add (k * 3)) rfl (txC (xk, uk)) _ HC.out Try.underlying37 rfl (by exact infoTx) ?_
      go_wp2_with fail
      refine (C.out).mono ?_
      rintro e w2 ⟨v2, rfl, o2, b2⟩
      have R2 := Lib.hid (Rd.of_own o2)
      have BB2 := Lib.hid (BB.out.tr b2)
      have K12 := Lib.hid (K1.out.fresh b2)
      have OB2 := Lib.hid (own_fresh OB.out b2)
      clear o2 b2 C HC hc1
      go_wp2_with fail
      refine (rblob_any w2 v2 Y R2.out (by have := HY.out.2; omega)).mono ?_
      rintro e w3 ⟨v3, rfl, o3, b3⟩
      obtain ⟨q, hq⟩ : ∃ m, m = 4 + Y.length := ⟨_, rfl⟩
      rw [← hq] at o3
      obtain ⟨a3, c3, rfl⟩ := (Rd.of_own o3).slice
      have R3 := Lib.hid (Rd.of_own o3)
      replace Hq : Hid (q ≤ 30004) := Lib.hid (by rw [hq]; have := HY.out.2; omega)
      have BB3 := Lib.hid (BB2.out.tr b3)
      have K13 := Lib.hid (K12.out.fresh b3)
      have OB3 := Lib.hid (own_fresh OB2.out b3)
      have L3 : Hid (w.heap.size + 1 ≤ w3.heap.size) := Lib.hid (K13.out.lt)
      clear o3 b3 R2 hq BB2 K12 OB2
      go_wp2_with (at_builtin; apply Stop.mk)
      refine Stop.go ?_
      refine wpList_append_rd _ rfl (.tmp 23) (.tmp 30) 42 rfl (w.heap.size + 1) 5 i0 (.int .u8 0) 1 1 Try.underlying42 HU.out.1 HU.out.2.1 HU.out.2.2.1 HU.out.2.2.2 rfl (by decide) (.slice a n c) (n) _ rfl OB3.out (.slice a3 q c3) (q) _ rfl (R3.out) (bvs_one _) (by unfold maxLen; have := Hn.out; have := Hq.out; omega) (by have := Hn.out; have := Hq.out; omega) L3.out ?_
      rintro v' w4 o' g' _ _
      obtain ⟨a', c', rfl⟩ := (Rd.of_own o').slice
      rw [← bvs_append] at o'
      have hgr := fun (j : Nat) hj => (OB3.out.lt j hj).1
      have BB4 := Lib.hid (Below.grown BB3.out g' BB3.out.size (fun j hj => by have := hgr j hj; omega))
      have K14 := Lib.hid (K13.out.grownT g' (fun e => by have := hgr _ e; omega))
      have OB4 := Lib.hid o'
      have L4 : Hid (w.heap.size + 1 ≤ (w4).heap.size) := Lib.hid (K14.out.lt)
      have Q : Hid (w4.ownsRow (w.heap.size + 1) 5 1 (.slice a' (n + q) c') (n + q) (bvs (L0 ++ (b.txs.take (k + 1)).flatMap tB))) := Lib.hid (by
        have e : (L0 ++ (b.txs.take k).flatMap tB) ++ (le Y.length 4 ++ Y) = L0 ++ (b.txs.take (k + 1)).flatMap tB := by
          rw [flatMap_next tB HXK.out]
          unfold tB
          rw [HY.out.1]
          simp
        rw [← e]
        exact OB4.out)
      clear o' g' hgr OB4
      go_wp2
      go_roundw
      case rel => exact ⟨BB4.out, K14.out, k + 1, _, a', c', HK.out, by go_num, rfl, Q.out⟩
      case measure => simp only [RowKit.intOf]; have := HK.out; omega
    · have ik : ¬ ((k : Int) < (N : Int)) := by omega
      have e9 : L0 ++ b.txs.flatMap tB = blockB b := by
        rw [HL0.out, HZ.out.1]
        unfold blockB
        rw [← HN.out.1]
      have hl9 : n = (blockB b).length := by
        have h := OB.out.1
        rw [bvs_length, List.take_of_length_le (by rw [← HN.out.1]; omega), e9] at h
        omega
      have Q : Hid (wr.ownsRow w.heap.size 5 1 (.slice a n c) (blockB b).length (bvs (blockB b))) := Lib.hid (by
        have h := own_lower' OB.out (Nat.le_succ _)
        rw [List.take_of_length_le (by rw [← HN.out.1]; omega), e9, hl9] at h
        rw [hl9]
        exact h)
      clear hlt hk e9 hl9 OB
      go_wp2
      go_ret
      exact ⟨_, rfl, Q.out, BB.out⟩

end Go.Proofs.Ytkbahhnjoidhcaa

/- block.Bytes: the walk. -/
namespace Go.Proofs.Ytkbahhnjoidhcaa
set_option linter.unusedVariables false
set_option linter.unusedSimpArgs false
open Go.RowKit

theorem blockE_zero {b : BlD} (h : blockE b = 0) : b.hd.par.length ≤ 255 ∧ (∀ x ∈ b.txs, checkE x = 0) ∧ b.txs.length ≤ 200 := by
  unfold blockE at h
  have h1 : bE1 b = 0 := by
    by_cases hh : bE1 b = 0
    · exact hh
    · rw [if_pos hh] at h
      exact h
  rw [if_neg (by rw [h1]; simp)] at h
  have h2 : bE2 b = 0 := by
    by_cases hh : bE2 b = 0
    · exact hh
    · rw [if_pos hh] at h
      exact h
  unfold bE1 at h1
  unfold bE2 at h2
  have h3 : ¬ (decide (255 < b.hd.par.length) || b.txs.any badT) = true := by
    intro hh
    rw [if_pos hh] at h1
    cases h1
  have h4 : ¬ 200 < b.txs.length := by
    intro hh
    rw [if_pos hh] at h2
    cases h2
  rw [Bool.or_eq_true, not_or, decide_eq_true_eq, List.any_eq_true] at h3
  refine ⟨by omega, fun x hx => ?_, by omega⟩
  have h5 : ¬ badT x = true := fun hb => h3.2 ⟨x, hx, hb⟩
  unfold badT at h5
  simpa using h5

set_option maxRecDepth 100000 in
set_option maxHeartbeats 4000000 in
theorem blbytes_no (F : Nat → Prop) (w : World) (b : BlD) (v t : Value) (R : Int) (hx : HdOk b.hd) (hv : Hs w v b.hd.par) (ht : Txs F w t b.txs) (hwf : ∀ x ∈ b.txs, TxWf x) (hl : b.txs.length ≤ 1048576) (hR : blockE b = R) (h0 : R ≠ 0) :
    Calls Try.prog 33 #[.agg (blC b v t).toArray] w fun e w' => e = .returned (.tuple #[.slice none 0 0, .int .i64 R]) ∧ Below w.heap.size w w' := by
  have C := fun w' (hb : Below w.heap.size w w') => bcheck_any F w' b v t hx (hv.fresh hb) (ht.fresh hb) hwf hl
  rw [hR] at C
  obtain ⟨X, hX⟩ : ∃ X, X = blC b v t := ⟨_, rfl⟩
  rw [← hX] at C ⊢
  have HXl : Hid (X.length = 131) := Lib.hid (by rw [hX]; exact blC_length hx)
  replace C := Lib.hid C
  have hb0 : (R == 0) = false := by rw [beq_eq_false_iff_ne]; exact h0
  clear hx hv ht hwf hl hR h0 hX
  go_enter Try.func33, Try.ntmps33
  go_wp2_with (with_reducible refine stopAt 12 ?_)
  refine Stop.go ?_
  obtain ⟨w1, h1, k1, b1, s1⟩ := alloc_cb w 30 X
  change wpList _ _ _ _ _ (w.alloc (.cells X.toArray 30))
  rw [← h1]
  have K1 := Lib.hid k1
  have BB := Lib.hid b1
  clear h1 k1 b1 s1
  refine wpList_load_agg rfl 30 (.tmp 1) rfl ⟨w.heap.size, 0, none⟩ rfl X _ (At.block K1.out).load Try.underlying30 rfl (by rw [HXl.out]; exact infoBl) ?_
  go_wp2_with fail
  refine (C.out w1 BB.out).mono ?_
  rintro e w3 ⟨rfl, b3⟩
  replace BB := Lib.hid (BB.out.tr b3)
  clear b3 C
  go_wp2
  go_ret2
  exact ⟨rfl, BB.out⟩

set_option maxRecDepth 100000 in
set_option maxHeartbeats 4000000 in
theorem blbytes_ok (F : Nat → Prop) (w : World) (b : BlD) (v t : Value) (hx : HdOk b.hd) (hv : Hs w v b.hd.par) (ht : Txs F w t b.txs) (hwf : ∀ x ∈ b.txs, TxWf x) (hn : 0 ≤ b.hd.nonce ∧ b.hd.nonce < 18446744073709551616) (h0 : blockE b = 0) :
    Calls Try.prog 33 #[.agg (blC b v t).toArray] w fun e w' => ∃ v' : Value, e = .returned (.tuple #[v', .int .i64 0]) ∧ w'.ownsRow w.heap.size 5 1 v' (blockB b).length (bvs (blockB b)) ∧ Below w.heap.size w w' := by
  obtain ⟨hp, h00, hl⟩ := blockE_zero h0
  have C := fun w' (hb : Below w.heap.size w w') => bcheck_any F w' b v t hx (hv.fresh hb) (ht.fresh hb) hwf (by omega)
  rw [h0] at C
  have HSZ := Lib.hid (txs_le ht h00)
  obtain ⟨a1, c1, rfl⟩ := ht.slice
  obtain ⟨N, hN⟩ : ∃ N, N = b.txs.length := ⟨_, rfl⟩
  rw [← hN] at ht hl C ⊢
  obtain ⟨X, hX⟩ : ∃ X, X = blC b v (.slice a1 N c1) := ⟨_, rfl⟩
  rw [← hX] at C ⊢
  have HXl : Hid (X.length = 131) := Lib.hid (by rw [hX]; exact blC_length hx)
  have HX := Lib.hid hX
  replace C := Lib.hid C
  have bN' : (N : Int) ≤ 9223372036854775807 := by omega
  have HOK := Lib.hid hx
  have HV := Lib.hid (And.intro hv (And.intro hn hp))
  have HN := Lib.hid (And.intro hN (And.intro hl (And.intro hwf h00)))
  have HHB := Lib.hid (hdB_le hx hv.1 hp)
  have HFT : Hid (∀ k, ((b.txs.take k).flatMap tB).length ≤ 200 * 30004) := Lib.hid (fun k => by
    have h1 := flatMap_len tB 30004 (b.txs.take k) (fun i hi => by
      unfold tB
      rw [List.length_append, le_len]
      have := HSZ.out i (List.mem_of_mem_take hi)
      omega)
    have h2 : (b.txs.take k).length ≤ 200 := by rw [List.length_take]; omega
    have h3 : (b.txs.take k).length * 30004 ≤ 200 * 30004 := Nat.mul_le_mul_right _ h2
    omega)
  obtain ⟨us, hlu, hru, heu⟩ := ht
  rw [← hN] at hlu hru
  change RdF F w 3 (.slice a1 N c1) N _ at hru
  have HI := Lib.hid hru.1
  have HE := Lib.hid (And.intro hlu heu)
  clear hX hx hv hwf hl hn hp h0 h00 hlu hru heu hN
  go_enter Try.func33, Try.ntmps33
  go_wp2_with (with_reducible refine stopAt 12 ?_)
  refine Stop.go ?_
  obtain ⟨w1, h1, k1, b1, s1⟩ := alloc_cb w 30 X
  change wpList _ _ _ _ _ (w.alloc (.cells X.toArray 30))
  rw [← h1]
  have K1 := Lib.hid k1
  have BB := Lib.hid b1
  clear h1 k1 b1 s1
  refine wpList_load_agg rfl 30 (.tmp 1) rfl ⟨w.heap.size, 0, none⟩ rfl X _ (At.block K1.out).load Try.underlying30 rfl (by rw [HXl.out]; exact infoBl) ?_
  go_wp2_with fail
  refine (C.out w1 BB.out).mono ?_
  rintro e w2 ⟨rfl, b2⟩
  replace BB := Lib.hid (BB.out.tr b2)
  replace K1 : Hid (CB w2 30 w.heap.size (blC b v (.slice a1 N c1))) := Lib.hid (by rw [← HX.out]; exact K1.out.fresh b2)
  clear b2 C HX HXl
  go_wp2_with (with_reducible refine stopAt 19 ?_)
  refine Stop.go ?_
  have A1 : At w2 w.heap.size 0 (blC b v (.slice a1 N c1)) := At.block K1.out
  unfold blC at A1
  refine wpList_load_agg rfl 27 (.tmp 18) rfl ⟨w.heap.size, 0, none⟩ rfl (hdC b.hd v) _ A1.pre.load Try.underlying27 rfl (by rw [hdC_length HOK.out]; exact infoHd) ?_
  clear A1
  have C := Lib.hid (hdbytes_ok w2 b.hd v HOK.out (HV.out.1.fresh BB.out) HV.out.2.1 HV.out.2.2)
  obtain ⟨Z, hZ⟩ : ∃ Z, Z = hdB b.hd := ⟨_, rfl⟩
  have HZ : Hid (Z = hdB b.hd ∧ Z.length ≤ 9000) := Lib.hid ⟨hZ, by rw [hZ]; exact HHB.out⟩
  rw [← hZ] at C
  clear hZ HHB
  go_wp2_with fail
  refine (C.out).mono ?_
  rintro e w3 ⟨v3, rfl, o3, b3⟩
  have R3 := Lib.hid (Rd.of_own o3)
  replace K1 := Lib.hid (K1.out.fresh b3)
  replace BB := Lib.hid (BB.out.tr b3)
  clear o3 b3 C
  have hS : Hid (CB w3.drew 30 w.heap.size (blC b v (.slice a1 N c1))) := Lib.hid K1.out.drew
  go_wp2_with fail
  obtain ⟨w4, hw4⟩ : ∃ w4, w4 = w3.drew := ⟨_, rfl⟩
  have BB4 : Hid (Below w.heap.size w w4) := Lib.hid (by rw [hw4]; exact BB.out.drew)
  have R4 : Hid (Rd w4 1 v3 Z.length (bvs Z)) := Lib.hid (by rw [hw4]; exact R3.out.fresh (Below.refl _ w3).drew)
  refine pl_start 8 rfl (fun w' => CB w' 30 w.heap.size (blC b v (.slice a1 N c1))) (by kernel_rfl) ?_
  rw [← hw4] at hS ⊢
  clear hw4 BB R3 K1
  refine pl_take (i := 1) 24 rfl rfl rfl (by kernel_rfl) (by kernel_rfl) (by kernel_rfl) (by simp [Act.put]) hS.out ?_
  apply Exists.intro
  refine And.intro (fun w' hS' => ?_) ?_
  · go_wp2
    first
      | exact ⟨trivial, rfl⟩
      | exact rfl
  refine pl_take (i := 3) 26 rfl rfl rfl (by kernel_rfl) (by kernel_rfl) (by kernel_rfl) (by simp [Act.put]) hS.out ?_
  apply Exists.intro
  refine And.intro (fun w' hS' => ?_) ?_
  · go_wp2
    first
      | exact ⟨trivial, rfl⟩
      | exact rfl
  refine pl_take (i := 4) 27 rfl rfl rfl (by kernel_rfl) (by kernel_rfl) (by kernel_rfl) (by simp [Act.put]) hS.out ?_
  apply Exists.intro
  refine And.intro (fun w' hS' => ?_) ?_
  · have hc := bl_cell (At.block hS') HOK.out
    clear hS'
    go_wp2
    exact ⟨trivial, rfl⟩
  refine pl_take (i := 5) 28 rfl rfl rfl (by kernel_rfl) (by kernel_rfl) (by kernel_rfl) (by simp [Act.put]) hS.out ?_
  apply Exists.intro
  refine And.intro (fun w' hS' => ?_) ?_
  · clear hS'
    go_wp2
    first
      | exact ⟨trivial, rfl⟩
      | exact rfl
  refine pl_heavy (i := 0) rfl (by kernel_rfl) ?_
  go_wp2
  obtain ⟨w5, hw5⟩ : ∃ w5, w5 = w4.alloc (.cells #[.slice none 0 0, .bool false] 105) := ⟨_, rfl⟩
  have hI := IsW.newT w4
  rw [← hw5] at hI
  have b5 : Below w4.heap.size w4 w5 := by rw [hw5]; exact (Below.refl _ w4).alloc (Nat.le_refl _) _
  have q := hS.out.fresh b5
  refine And.intro (by rw [hw5] at q; exact q) ?_
  change wpAnyH _ _ _ _ _ _ _ _ (World.alloc w4 (.cells #[.slice none 0 0, .bool false] 105))
  rw [← hw5]
  replace hS := Lib.hid q
  have R5 := Lib.hid (R4.out.fresh b5)
  have BB5 := Lib.hid (BB4.out.tr b5)
  obtain ⟨B, hB⟩ : ∃ B, B = w4.heap.size := ⟨_, rfl⟩
  have LB : Hid (w.heap.size < B ∧ w.heap.size ≤ B) := Lib.hid (by
    have h := hS.out.lt
    have h2 := BB4.out.size
    have h3 : w.heap.size < w4.heap.size := by
      rw [hw5] at q
      rcases Nat.lt_or_ge w.heap.size w4.heap.size with h4 | h4
      · exact h4
      · exfalso
        have e : w.heap.size = w4.heap.size := by omega
        unfold CB at q
        rw [e, heap_alloc_new] at q
        simp only [Option.some.injEq, Obj.cells.injEq] at q
        exact absurd q.2.1 (by decide)
    rw [hB]
    exact ⟨h3, by omega⟩)
  have AP5 : Hid (Apart w5 B v3 Z.length) := Lib.hid (by rw [hB]; exact Apart.old R4.out (Nat.le_refl _) hI)
  rw [← hB] at hI ⊢
  have II := Lib.hid hI
  clear q hI hw5 b5 hB R4 BB4
  refine pl_heavy (i := 2) rfl (by kernel_rfl) ?_
  go_wp2_with fail
  refine (Blob_any w5 B B _ Z II.out v3 R5.out AP5.out (lenT (by have := HZ.out.2; simp; omega))).mono ?_
  rintro e w6 ⟨rfl, hi, mw⟩
  rw [blobB_ok _ (by have := HZ.out.2; omega)] at hi
  have II6 : Hid (IsW w6 B B (some (le Z.length 4 ++ Z))) := Lib.hid hi
  have BB6 := Lib.hid (BB5.out.trans ((mw.below II.out).mono LB.out.2))
  replace hS := Lib.hid (hS.out.below (mw.below II.out) LB.out.1)
  clear hi mw AP5 R5
  go_wp2
  refine And.intro hS.out ?_
  refine pl_heavy (i := 6) rfl (by kernel_rfl) ?_
  go_wp2_with fail
  refine (Count_any w6 B B _ II6.out (N : Int) (lenT (by rw [List.length_append, le_len]; have := HZ.out.2; omega))).mono ?_
  rintro e w7 ⟨rfl, hi, mw⟩
  rw [countB_ok N (by have := HN.out.2.1; omega)] at hi
  obtain ⟨L0, hL0⟩ : ∃ L, L = (le Z.length 4 ++ Z) ++ le N 2 := ⟨_, rfl⟩
  have HL0 : Hid (L0.length ≤ 10000 ∧ L0 = (le Z.length 4 ++ Z) ++ le N 2) := Lib.hid ⟨by rw [hL0]; simp only [List.length_append, le_len]; have := HZ.out.2; omega, hL0⟩
  have II7 : Hid (IsW w7 B B (some L0)) := Lib.hid (by rw [hL0]; exact hi)
  have BB7 := Lib.hid (BB6.out.trans ((mw.below II6.out).mono LB.out.2))
  replace hS := Lib.hid (hS.out.below (mw.below II6.out) LB.out.1)
  clear hi mw hL0 BB5 II BB6 II6
  go_wp2
  refine And.intro hS.out ?_
  refine pl_take (i := 7) 7 rfl rfl rfl (by kernel_rfl) (by kernel_rfl) (by kernel_rfl) (by simp [Act.put]) hS.out ?_
  apply Exists.intro
  refine And.intro (fun w' hS' => ?_) ?_
  · go_wp2
    first
      | exact ⟨trivial, rfl⟩
      | exact rfl
  refine pl_done (by kernel_rfl) ?_
  have hc1 := bl_cell (At.block hS.out) HOK.out
  go_wp2
  clear hc1
  go_loopw [33] (fun v33 wr => Below w.heap.size w wr ∧ ∃ k : Nat, k ≤ N ∧ v33 = .int .i64 (k : Int) ∧ IsW wr B B (some (L0 ++ (b.txs.take k).flatMap tB)))
    (fun v _ => N - (RowKit.intOf v).toNat)
  case atStart => exact ⟨BB7.out, 0, Nat.zero_le _, rfl, by simpa using II7.out⟩
  case round =>
    clear BB7 II7 hS
    obtain ⟨hb, k, hk, rfl, hi⟩ := hrel
    have BB := Lib.hid hb
    have II := Lib.hid hi
    have hl1 : Hid ((L0 ++ (b.txs.take k).flatMap tB).length ≤ 6100000) := Lib.hid (by rw [List.length_append]; have := HFT.out k; have := HL0.out.1; omega)
    clear hb hi
    by_cases hlt : k < N
    · obtain ⟨xk, hx⟩ : ∃ z, b.txs[k]? = some z := ⟨_, List.getElem?_eq_getElem (by rw [← HN.out.1]; exact hlt)⟩
      obtain ⟨uk, hux⟩ : ∃ z, us[k]? = some z := ⟨_, List.getElem?_eq_getElem (by rw [HE.out.1]; exact hlt)⟩
      obtain ⟨ad, cx, he⟩ := rd_some HI.out (by omega)
      simp only [Value.slice.injEq, true_and] at he
      obtain ⟨rfl, rfl⟩ := he
      have hz : (b.txs.zip us)[k]? = some (xk, uk) := by rw [List.getElem?_zip_eq_some]; exact ⟨hx, hux⟩
      have h9 := HE.out.2 k xk uk hx hux
      have HC := Lib.hid ((HI.out.fresh BB.out).at (fun z _ => rfl) hz)
      have HIO := Lib.hid (And.intro (h9.1.fresh BB.out) (h9.2.fresh BB.out))
      have HP : Hid (uk.1.oneCell' = true ∧ uk.2.oneCell' = true) := Lib.hid ⟨by obtain ⟨_, _, e⟩ := h9.1.slice; rw [e]; rfl, by obtain ⟨_, _, e⟩ := h9.2.slice; rw [e]; rfl⟩
      have hm := List.mem_of_getElem? hx
      have HM := Lib.hid hm
      have HXK := Lib.hid hx
      have ik : (k : Int) < (N : Int) := by omega
      have HK := Lib.hid hlt
      clear hx hux hz h9 hlt hk hm
      go_wp2_with (with_reducible refine stopAt 36 ?_)
      refine Stop.go ?_
      refine wpList_load_agg rfl 37 (.tmp 35) rfl (ad.add (k * 3)) rfl (txC (xk, uk)) _ HC.out Try.underlying37 rfl (by exact infoTx) ?_
      go_wp2_with (with_reducible refine stopStore 37 ?_)
      refine Stop.go ?_
      refine wpList_store_var rfl 37 (.tmp 9) (.tmp 36) rfl wr.heap.size _ rfl _ (txC (xk, uk)) rfl (heap_alloc_new wr _) (by rfl) (txC_one xk uk HP.out.1 HP.out.2) (by exact infoTx) ?_
      intro w1 k1 o1
      have b1 : Below wr.heap.size wr w1 := Below.only ((Below.refl _ wr).alloc (Nat.le_refl _) _) o1 (Nat.le_refl _)
      obtain ⟨G5, hG5⟩ : ∃ g, g = wr.heap.size := ⟨_, rfl⟩
      have KK : Hid (CB w1 37 G5 (txC (xk, uk))) := Lib.hid (by rw [hG5]; exact k1)
      rw [← hG5]
      have BW1 := Lib.hid b1
      clear k1 o1 b1 hG5 HC
      go_wp2_with (with_reducible refine stopAt 38 ?_)
      refine Stop.go ?_
      refine wpList_load_agg rfl 37 (.tmp 9) rfl ⟨G5, 0, none⟩ rfl (txC (xk, uk)) _ (At.block KK.out).load Try.underlying37 rfl (by exact infoTx) ?_
      have C := txbytes_ok F w1 xk uk (HIO.out.1.fresh BW1.out) (HIO.out.2.fresh BW1.out) (HN.out.2.2.1 xk HM.out) (HN.out.2.2.2 xk HM.out)
      obtain ⟨Y, hY⟩ : ∃ Y, Y = packB xk := ⟨_, rfl⟩
      have HY : Hid (Y = packB xk ∧ Y.length ≤ 30000) := Lib.hid ⟨hY, by rw [hY]; exact HSZ.out xk HM.out⟩
      rw [← hY] at C
      replace C := Lib.hid C
      clear hY HIO KK
      go_wp2_with fail
      refine (C.out).mono ?_
      rintro e w2 ⟨v2, rfl, o2, b2⟩
      have BB2 := Lib.hid (BW1.out.tr b2)
      have R2 := Lib.hid (Rd.of_own o2)
      have HO2 : Hid (∀ k, v2.ownBlock = some k → wr.heap.size ≤ k) := Lib.hid (fun k hk => by have := (o2.lt k hk).1; have := BW1.out.size; omega)
      have II2 := Lib.hid (II.out.fresh BB2.out)
      have AP2 := Lib.hid (Apart.new (n := Y.length) II.out BB2.out HO2.out)
      have BBZ := Lib.hid (BB.out.tr BB2.out)
      clear o2 b2 C BW1 HO2
      go_wp2_with fail
      refine (Blob_any w2 B B _ Y II2.out v2 R2.out AP2.out (lenT (by have := HY.out.2; have := hl1.out; omega))).mono ?_
      rintro e w3' ⟨rfl, hi, mw⟩
      rw [blobB_ok _ (by have := HY.out.2; omega)] at hi
      have Q1 := Lib.hid (BBZ.out.trans ((mw.below II2.out).mono LB.out.2))
      have Q3 : Hid (IsW w3' B B (some (L0 ++ (b.txs.take (k + 1)).flatMap tB))) := Lib.hid (by
        have e : (L0 ++ (b.txs.take k).flatMap tB) ++ (le Y.length 4 ++ Y) = L0 ++ (b.txs.take (k + 1)).flatMap tB := by
          rw [flatMap_next tB HXK.out]
          unfold tB
          rw [HY.out.1]
          simp
        rw [← e]
        exact hi)
      clear hi mw
      go_wp2
      go_roundw
      case rel => exact ⟨Q1.out, k + 1, HK.out, by go_num, Q3.out⟩
      case measure => simp only [RowKit.intOf]; have := HK.out; omega
    · have ik : ¬ ((k : Int) < (N : Int)) := by omega
      have e9 : L0 ++ b.txs.flatMap tB = blockB b := by
        rw [HL0.out.2, HZ.out.1]
        unfold blockB
        rw [← HN.out.1]
      have II7 : Hid (IsW wr B B (some (blockB b)) ∧ (blockB b).length ≤ 1099511627776) := Lib.hid (by
        have h := II.out
        have h2 := hl1.out
        rw [List.take_of_length_le (by rw [← HN.out.1]; omega), e9] at h h2
        exact ⟨h, by omega⟩)
      clear hlt hk e9 II
      go_wp2_with fail
      refine (End_good wr B B (blockB b) II7.out.1 II7.out.2).mono ?_
      rintro e w8 ⟨v', rfl, ov, b8⟩
      have OV := Lib.hid (own_lower' ov BB.out.size)
      have B8 := Lib.hid (BB.out.tr b8)
      clear ov b8
      go_wp2
      go_ret2
      exact ⟨v', rfl, OV.out, B8.out⟩

end Go.Proofs.Ytkbahhnjoidhcaa

/- The reference's Much, of blocks: what it bounds; the walks. -/
namespace Go.Proofs.Ytkbahhnjoidhcaa
set_option linter.unusedVariables false
set_option linter.unusedSimpArgs false
open Go.RowKit

/-- It ends with a Boolean; if that is false, there are not more than so many. -/
def IsBf (P : Prop) (e : Ending) : Prop := ∃ B : Bool, e = .returned (.bool B) ∧ (B = false → P)
def IsBm (n : Nat) (m : Int) (e : Ending) : Prop := ∃ B : Bool, e = .returned (.bool B) ∧ (B = false → (n : Int) ≤ m)

set_option maxRecDepth 100000 in
set_option maxHeartbeats 4000000 in
theorem much5_le (F : Nat → Prop) (w : World) (v : Value) (l : List TxD) (m : Int) (h : Txs F w v l) :
    Calls Try.prog 14 #[v, .int .i64 m] w fun e w' => IsBm l.length m e ∧ Below w.heap.size w w' := by
  obtain ⟨a0, c0, rfl⟩ := h.slice
  obtain ⟨N, hN⟩ : ∃ N, N = l.length := ⟨_, rfl⟩
  obtain ⟨us, hlu, hru, heu⟩ := h
  rw [← hN] at hlu hru
  rw [← hN]
  have bN' : (N : Int) ≤ 9223372036854775807 := rd_small hru.1
  have HI := Lib.hid hru.1
  have HE := Lib.hid heu
  have HL := Lib.hid (And.intro hN hlu)
  clear hN hlu hru heu
  go_enter Try.func14, Try.ntmps14
  go_wp2
  go_loopw [5, 6, 7] (fun v5 v6 v7 wr => Below w.heap.size w wr ∧ ∃ (k : Nat) (n : Int), k ≤ N ∧ v6 = .int .i64 (k : Int) ∧ v5 = .int .i64 n)
    (fun _ v _ _ => N - (RowKit.intOf v).toNat)
  case atStart => exact ⟨Below.refl _ _, 0, 0, Nat.zero_le _, rfl, rfl⟩
  case round =>
    obtain ⟨hb, k, n, hk, rfl, rfl⟩ := hrel
    have HB := Lib.hid hb
    clear hb
    by_cases hlt : k < N
    · by_cases hm : (k : Int) ≤ m
      · obtain ⟨x, hx⟩ : ∃ z, l[k]? = some z := ⟨_, List.getElem?_eq_getElem (by rw [← HL.out.1]; exact hlt)⟩
        obtain ⟨u, hu⟩ : ∃ z, us[k]? = some z := ⟨_, List.getElem?_eq_getElem (by rw [HL.out.2]; exact hlt)⟩
        obtain ⟨ad, c, he⟩ := rd_some HI.out (by omega)
        simp only [Value.slice.injEq, true_and] at he
        obtain ⟨rfl, rfl⟩ := he
        have hz : (l.zip us)[k]? = some (x, u) := by rw [List.getElem?_zip_eq_some]; exact ⟨hx, hu⟩
        have he := HE.out k x u hx hu
        obtain ⟨u1, u2⟩ := u
        obtain ⟨a1, c1, e1⟩ := he.1.slice
        change u1 = _ at e1
        subst e1
        obtain ⟨a2, c2, e2⟩ := he.2.slice
        change u2 = _ at e2
        subst e2
        obtain ⟨K, hK⟩ : ∃ K, K = x.ins.length := ⟨_, rfl⟩
        obtain ⟨L, hL⟩ : ∃ L, L = x.outs.length := ⟨_, rfl⟩
        rw [← hK] at he hz
        rw [← hL] at he hz
        obtain ⟨vs, hlv, hokv, hrv, hev⟩ := he.1
        rw [← hK] at hlv hrv
        change RdF F w 34 (.slice a1 K c1) K _ at hrv
        have bK' : (K : Int) ≤ 9223372036854775807 := rd_small hrv.1
        have HZ := Lib.hid hz
        have HV := Lib.hid (And.intro hrv.1 (And.intro hlv (And.intro hK (And.intro hokv hev))))
        have HK := Lib.hid hlt
        have ik : (k : Int) < (N : Int) := by omega
        clear hx hu hz he hlt hk hK hL hlv hokv hrv hev
        have hS : Hid (Rd wr.drew 3 (.slice (some ad) N c0) N ((l.zip us).flatMap txC)) := Lib.hid (HI.out.fresh HB.out.drew)
        go_wp2_with fail
        refine pl_start 16 rfl (fun w' => Rd w' 3 (.slice (some ad) N c0) N ((l.zip us).flatMap txC)) (by kernel_rfl) ?_
        obtain ⟨w2, hw2⟩ : ∃ w2, w2 = wr.drew := ⟨_, rfl⟩
        have B2 : Hid (Below w.heap.size w w2) := Lib.hid (by rw [hw2]; exact HB.out.drew)
        rw [← hw2] at hS ⊢
        clear hw2
        refine pl_take (i := 0) 19 rfl rfl rfl (by kernel_rfl) (by kernel_rfl) (by kernel_rfl) (by simp [Act.put]) hS.out ?_
        apply Exists.intro
        refine And.intro (fun w' hS' => ?_) ?_
        · go_wp2
          first
            | exact ⟨trivial, rfl⟩
            | exact rfl
        refine pl_take (i := 1) 20 rfl rfl rfl (by kernel_rfl) (by kernel_rfl) (by kernel_rfl) (by simp [Act.put]) hS.out ?_
        apply Exists.intro
        refine And.intro (fun w' hS' => ?_) ?_
        · go_wp2
          first
            | exact ⟨trivial, rfl⟩
            | exact rfl
        refine pl_take (i := 2) 21 rfl rfl rfl (by kernel_rfl) (by kernel_rfl) (by kernel_rfl) (by simp [Act.put]) hS.out ?_
        apply Exists.intro
        refine And.intro (fun w' hS' => ?_) ?_
        · go_wp2
          first
            | exact ⟨trivial, rfl⟩
            | exact rfl
        refine pl_take (i := 3) 22 rfl rfl rfl (by kernel_rfl) (by kernel_rfl) (by kernel_rfl) (by simp [Act.put]) hS.out ?_
        apply Exists.intro
        refine And.intro (fun w' hS' => ?_) ?_
        · clear hS'
          go_wp2
          first
            | exact ⟨trivial, rfl⟩
            | exact rfl
        refine pl_take (i := 4) 23 rfl rfl rfl (by kernel_rfl) (by kernel_rfl) (by kernel_rfl) (by simp [Act.put]) hS.out ?_
        apply Exists.intro
        refine And.intro (fun w' hS' => ?_) ?_
        · go_wp2
          first
            | exact ⟨trivial, rfl⟩
            | exact rfl
        refine pl_take (i := 5) 24 rfl rfl rfl (by kernel_rfl) (by kernel_rfl) (by kernel_rfl) (by simp [Act.put]) hS.out ?_
        apply Exists.intro
        refine And.intro (fun w' hS' => ?_) ?_
        · have hc : w'.cell? (ad.add (k * 3)) = some (.slice a1 K c1) := by
            have h1 := hS'.at (fun z _ => rfl) HZ.out 0 _ rfl
            rwa [add_zero_addr] at h1
          clear hS'
          go_wp2
          first
            | exact ⟨trivial, rfl⟩
            | exact rfl
        refine pl_take (i := 6) 25 rfl rfl rfl (by kernel_rfl) (by kernel_rfl) (by kernel_rfl) (by simp [Act.put]) hS.out ?_
        apply Exists.intro
        refine And.intro (fun w' hS' => ?_) ?_
        · go_wp2
          first
            | exact ⟨trivial, rfl⟩
            | exact rfl
        refine pl_take (i := 7) 26 rfl rfl rfl (by kernel_rfl) (by kernel_rfl) (by kernel_rfl) (by simp [Act.put]) hS.out ?_
        apply Exists.intro
        refine And.intro (fun w' hS' => ?_) ?_
        · go_wp2
          first
            | exact ⟨trivial, rfl⟩
            | exact rfl
        refine pl_take (i := 8) 27 rfl rfl rfl (by kernel_rfl) (by kernel_rfl) (by kernel_rfl) (by simp [Act.put]) hS.out ?_
        apply Exists.intro
        refine And.intro (fun w' hS' => ?_) ?_
        · go_wp2
          first
            | exact ⟨trivial, rfl⟩
            | exact rfl
        refine pl_take (i := 9) 28 rfl rfl rfl (by kernel_rfl) (by kernel_rfl) (by kernel_rfl) (by simp [Act.put]) hS.out ?_
        apply Exists.intro
        refine And.intro (fun w' hS' => ?_) ?_
        · go_wp2
          first
            | exact ⟨trivial, rfl⟩
            | exact rfl
        refine pl_take (i := 10) 29 rfl rfl rfl (by kernel_rfl) (by kernel_rfl) (by kernel_rfl) (by simp [Act.put]) hS.out ?_
        apply Exists.intro
        refine And.intro (fun w' hS' => ?_) ?_
        · clear hS'
          go_wp2
          first
            | exact ⟨trivial, rfl⟩
            | exact rfl
        refine pl_take (i := 11) 30 rfl rfl rfl (by kernel_rfl) (by kernel_rfl) (by kernel_rfl) (by simp [Act.put]) hS.out ?_
        apply Exists.intro
        refine And.intro (fun w' hS' => ?_) ?_
        · go_wp2
          first
            | exact ⟨trivial, rfl⟩
            | exact rfl
        refine pl_take (i := 12) 31 rfl rfl rfl (by kernel_rfl) (by kernel_rfl) (by kernel_rfl) (by simp [Act.put]) hS.out ?_
        apply Exists.intro
        refine And.intro (fun w' hS' => ?_) ?_
        · have hc := cell_off (hS'.at (fun z _ => rfl) HZ.out (0 + 1) _ rfl)
          clear hS'
          go_wp2
          first
            | exact ⟨trivial, rfl⟩
            | exact rfl
        refine pl_take (i := 13) 32 rfl rfl rfl (by kernel_rfl) (by kernel_rfl) (by kernel_rfl) (by simp [Act.put]) hS.out ?_
        apply Exists.intro
        refine And.intro (fun w' hS' => ?_) ?_
        · go_wp2
          first
            | exact ⟨trivial, rfl⟩
            | exact rfl
        refine pl_take (i := 14) 33 rfl rfl rfl (by kernel_rfl) (by kernel_rfl) (by kernel_rfl) (by simp [Act.put]) hS.out ?_
        apply Exists.intro
        refine And.intro (fun w' hS' => ?_) ?_
        · go_wp2
          first
            | exact ⟨trivial, rfl⟩
            | exact rfl
        refine pl_take (i := 15) 5 rfl rfl rfl (by kernel_rfl) (by kernel_rfl) (by kernel_rfl) (by simp [Act.put]) hS.out ?_
        apply Exists.intro
        refine And.intro (fun w' hS' => ?_) ?_
        · go_wp2
          first
            | exact ⟨trivial, rfl⟩
            | exact rfl
        refine pl_done (by kernel_rfl) ?_
        have hd9 := hS.out
        clear hS HB
        go_wp2
        obtain ⟨n1, hn1⟩ : ∃ n1 : Int, n1 = n1 := ⟨0, rfl⟩
        clear hd9 hn1 n1
        go_loopw [5, 7] (fun v5 v7 wz => Below w2.heap.size w2 wz ∧ ∃ (j : Nat) (n : Int), j ≤ K ∧ v7 = .int .i64 (j : Int) ∧ v5 = .int .i64 n)
          (fun _ v _ => K - (RowKit.intOf v).toNat)
        case atStart => exact ⟨Below.refl _ _, 0, _, Nat.zero_le _, rfl, rfl⟩
        case round =>
          obtain ⟨hb, j, n, hj, rfl, rfl⟩ := hrel
          have HB := Lib.hid hb
          have hR := (HI.out.fresh (B2.out.tr hb)).at (fun z _ => rfl) HZ.out 0 _ rfl
          rw [add_zero_addr] at hR
          clear hb
          by_cases hj2 : j < K
          · have ij : (j : Int) < (K : Int) := by omega
            obtain ⟨xi, hxi⟩ : ∃ z, x.ins[j]? = some z := ⟨_, List.getElem?_eq_getElem (by rw [← HV.out.2.2.1]; exact hj2)⟩
            obtain ⟨ui, hui⟩ : ∃ z, vs[j]? = some z := ⟨_, List.getElem?_eq_getElem (by rw [HV.out.2.1]; exact hj2)⟩
            obtain ⟨bd, d, he⟩ := rd_some HV.out.1 (by omega)
            simp only [Value.slice.injEq, true_and] at he
            obtain ⟨rfl, rfl⟩ := he
            have hzi : (x.ins.zip vs)[j]? = some (xi, ui) := by rw [List.getElem?_zip_eq_some]; exact ⟨hxi, hui⟩
            have hok : ∀ z ∈ x.ins.zip vs, (inC z).length = 34 := fun z hz => inC_length (HV.out.2.2.2.1 _ (List.of_mem_zip hz).1)
            have hW := in_wit ((HV.out.1.fresh (B2.out.tr HB.out)).at hok hzi) (HV.out.2.2.2.1 _ (List.mem_of_getElem? hxi))
            obtain ⟨a5, c5, e5⟩ := (HV.out.2.2.2.2 j xi ui hxi hui).1.slice
            obtain ⟨W, hWl⟩ : ∃ W, W = xi.wit.length := ⟨_, rfl⟩
            rw [← hWl] at e5
            subst e5
            have HJ := Lib.hid hj2
            clear hxi hui hzi hok hj hWl hj2
            by_cases h300 : (j : Int) ≤ 300
            · go_wp2
              go_roundw
              case rel => exact ⟨HB.out, j + 1, _, HJ.out, by go_num, rfl⟩
              case measure => simp only [RowKit.intOf]; have := HJ.out; omega
            · skip
              have BQ : Hid (Below w.heap.size w _) := Lib.hid (B2.out.tr HB.out)
              by_cases hn : (600 : Int) < n
              · go_wp2
                go_ret
                exact ⟨⟨true, rfl, by simp⟩, BQ.out⟩
              · go_wp2
                go_roundw
                case rel => exact ⟨BQ.out, k + 1, _, HK.out, by go_num, rfl⟩
                case measure => simp only [RowKit.intOf]; have := HK.out; omega
          · have ij : ¬ ((j : Int) < (K : Int)) := by omega
            have BQ : Hid (Below w.heap.size w _) := Lib.hid (B2.out.tr HB.out)
            by_cases hn : (600 : Int) < n
            · go_wp2
              go_ret
              exact ⟨⟨true, rfl, by simp⟩, BQ.out⟩
            · go_wp2
              go_roundw
              case rel => exact ⟨BQ.out, k + 1, _, HK.out, by go_num, rfl⟩
              case measure => simp only [RowKit.intOf]; have := HK.out; omega
      · have ik : (k : Int) < (N : Int) := by omega
        clear hlt hk
        go_wp2
        go_ret
        exact ⟨⟨_, rfl, fun h => by simpa using h⟩, HB.out⟩
    · have ik : ¬ ((k : Int) < (N : Int)) := by omega
      clear hlt hk
      go_wp2
      go_ret
      exact ⟨⟨_, rfl, fun h => by simpa using h⟩, HB.out⟩

set_option maxRecDepth 100000 in
set_option maxHeartbeats 4000000 in
theorem much6_le (F : Nat → Prop) (w : World) (v : Value) (l : List BlD) (m : Int) (h : Bls F w v l) :
    Calls Try.prog 7 #[v, .int .i64 m] w fun e w' => IsBf (∀ x ∈ l, x.txs.length ≤ 40) e ∧ Below w.heap.size w w' := by
  obtain ⟨us, hlu, hok, hru, heu⟩ := h
  obtain ⟨a0, c0, rfl⟩ := hru.slice
  obtain ⟨N, hN⟩ : ∃ N, N = l.length := ⟨_, rfl⟩
  rw [← hN] at hlu hru
  rw [← hN]
  have bN' : (N : Int) ≤ 9223372036854775807 := rd_small hru
  have HI := Lib.hid hru
  have HE := Lib.hid heu
  have HL := Lib.hid (And.intro hN (And.intro hlu hok))
  clear hN hlu hru heu hok
  go_enter Try.func7, Try.ntmps7
  go_wp2
  go_loopw [5] (fun v5 wr => Below w.heap.size w wr ∧ ∃ (k : Nat), k ≤ N ∧ v5 = .int .i64 (k : Int) ∧ ∀ x ∈ l.take k, x.txs.length ≤ 40)
    (fun v _ => N - (RowKit.intOf v).toNat)
  case atStart => exact ⟨Below.refl _ _, 0, Nat.zero_le _, rfl, fun x hx => by simp at hx⟩
  case round =>
    obtain ⟨hb, k, hk, rfl, hsm⟩ := hrel
    have HB := Lib.hid hb
    have SM := Lib.hid hsm
    clear hb hsm
    by_cases hlt : k < N
    · have ik : (k : Int) < (N : Int) := by omega
      by_cases hm : (k : Int) ≤ m
      · obtain ⟨x, hx⟩ : ∃ z, l[k]? = some z := ⟨_, List.getElem?_eq_getElem (by rw [← HL.out.1]; exact hlt)⟩
        obtain ⟨u, hu⟩ : ∃ z, us[k]? = some z := ⟨_, List.getElem?_eq_getElem (by rw [HL.out.2.1]; exact hlt)⟩
        obtain ⟨ad, c, he⟩ := rd_some HI.out (by omega)
        simp only [Value.slice.injEq, true_and] at he
        obtain ⟨rfl, rfl⟩ := he
        have hz : (l.zip us)[k]? = some (x, u) := by rw [List.getElem?_zip_eq_some]; exact ⟨hx, hu⟩
        have hxo := HL.out.2.2 _ (List.mem_of_getElem? hx)
        have hlz : ∀ z ∈ l.zip us, (blZ z).length = 131 := fun z hz => blC_len131 (HL.out.2.2 _ (List.of_mem_zip hz).1)
        have hat := (HI.out.fresh HB.out).at hlz hz
        have hc0 := hat 0 _ (blZ_at0 x u)
        rw [add_zero_addr] at hc0
        have hc1 := cell_off (hat (129 + 1) _ (blZ_at130 hxo))
        have he := HE.out k x u hx hu
        obtain ⟨a1, c1, e1⟩ := he.1.slice
        obtain ⟨L, hL⟩ : ∃ L, L = x.hd.par.length := ⟨_, rfl⟩
        rw [← hL] at e1
        rw [e1] at hc0
        have CM := Lib.hid (much5_le F wr u.2 x.txs 40 (he.2.fresh HB.out))
        have HXX := Lib.hid hx
        have HK := Lib.hid hlt
        clear hx hu hz hxo hlz hat he e1 hL hlt hk
        by_cases h6 : (600 : Int) < (L : Int)
        · go_wp2
          go_ret
          exact ⟨⟨true, rfl, by simp⟩, HB.out⟩
        · go_wp2_with fail
          refine (CM.out).mono ?_
          rintro e w2 ⟨⟨B, rfl, hB⟩, b2⟩
          have B2 := Lib.hid (HB.out.tr b2)
          have HBB := Lib.hid hB
          clear b2 hc0 hc1 hB
          cases B
          · have Q : Hid (∀ x ∈ l.take (k + 1), x.txs.length ≤ 40) := Lib.hid (fun y hy => by
              rw [List.take_add_one, HXX.out, Option.toList, List.mem_append] at hy
              rcases hy with hy | hy
              · exact SM.out y hy
              · simp only [List.mem_cons, List.not_mem_nil, or_false] at hy
                subst hy
                have := HBB.out rfl
                omega)
            clear HBB
            go_wp2
            go_roundw
            case rel => exact ⟨B2.out, k + 1, HK.out, by go_num, Q.out⟩
            case measure => simp only [RowKit.intOf]; have := HK.out; omega
          · go_wp2
            go_ret
            exact ⟨⟨true, rfl, by simp⟩, B2.out⟩
      · have hNm : Hid (m < (N : Int)) := Lib.hid (by omega)
        clear hlt hk
        go_wp2
        go_ret
        exact ⟨⟨_, rfl, fun h => by have h1 : decide (m < (N : Int)) = false := h; exact absurd hNm.out (of_decide_eq_false h1)⟩, HB.out⟩
    · have ik : ¬ ((k : Int) < (N : Int)) := by omega
      have Q : Hid (∀ x ∈ l, x.txs.length ≤ 40) := Lib.hid (by
        have h := SM.out
        rwa [List.take_of_length_le (by rw [← HL.out.1]; omega)] at h)
      clear hlt hk
      go_wp2
      go_ret
      exact ⟨⟨_, rfl, fun _ => Q.out⟩, HB.out⟩

end Go.Proofs.Ytkbahhnjoidhcaa

/- Law BlockChecks: the walk. -/
namespace Go.Proofs.Ytkbahhnjoidhcaa
set_option linter.unusedVariables false
set_option linter.unusedSimpArgs false
open Go.RowKit

theorem num6w_any (w : World) (n : Int) :
    Calls Try.prog 35 #[.int .i64 n] w fun e w' => e = .returned (.int .i64 n) ∧ w = w' :=
  (num6_any w n).mono fun e w' h => ⟨h.1, h.2.symm⟩

set_option maxRecDepth 100000 in
set_option maxHeartbeats 8000000 in
theorem blockchecks_any (F : Nat → Prop) (w : World) (b : BlD) (v t : Value) (hx : HdOk b.hd) (hv : Hs w v b.hd.par) (ht : Txs F w t b.txs) (hwf : ∀ x ∈ b.txs, TxWf x) (hn : 0 ≤ b.hd.nonce ∧ b.hd.nonce < 18446744073709551616) :
    Calls Try.prog 6 #[.agg (blC b v t).toArray] w fun e w' => e = .returned (.bool true) ∧ Below w.heap.size w w' := by
  obtain ⟨a0, c0, rfl⟩ := hv.slice
  obtain ⟨a1, c1, rfl⟩ := ht.slice
  obtain ⟨P, hP⟩ : ∃ P, P = b.hd.par.length := ⟨_, rfl⟩
  obtain ⟨N, hN⟩ : ∃ N, N = b.txs.length := ⟨_, rfl⟩
  rw [← hP] at hv ⊢
  rw [← hN] at ht ⊢
  obtain ⟨X, hX⟩ : ∃ X, X = blC b (.slice a0 P c0) (.slice a1 N c1) := ⟨_, rfl⟩
  rw [← hX]
  have HX := Lib.hid hX
  have HXl : Hid (X.length = 131) := Lib.hid (by rw [hX]; exact blC_length hx)
  have HOK := Lib.hid hx
  have HV := Lib.hid (And.intro hv hn)
  have HT := Lib.hid (And.intro ht hwf)
  obtain ⟨R, hR⟩ : ∃ R, R = blockE b := ⟨_, rfl⟩
  have HR := Lib.hid hR
  clear hX hx hv ht hwf hn hP hN hR
  go_enter Try.func6, Try.ntmps6
  go_wp2_with (with_reducible refine stopAt 6 ?_)
  refine Stop.go ?_
  obtain ⟨w1, h1, k1, b1, s1⟩ := alloc_cb w 30 X
  change wpList _ _ _ _ _ (w.alloc (.cells X.toArray 30))
  rw [← h1]
  have K1 := Lib.hid k1
  have BB := Lib.hid b1
  clear h1 k1 b1 s1
  refine wpList_load_agg rfl 30 (.tmp 1) rfl ⟨w.heap.size, 0, none⟩ rfl X _ (At.block K1.out).load Try.underlying30 rfl (by rw [HXl.out]; exact infoBl) ?_
  go_wp2_with (with_reducible refine stopAt 7 ?_)
  refine Stop.go ?_
  refine wpList_buildR rfl 32 30 1 _ rfl Try.underlying32 131 _ infoZBl (by decide) (by decide) (by decide) [X] (by intro c hc; simp at hc; subst hc; exact HXl.out) rfl (by kernel_rfl) ?_
  intro w2 r2 b2 s2
  have BL : Hid (Bls F w2 (.slice (some ⟨w1.heap.size, 0, none⟩) 1 1) [b]) := Lib.hid ⟨[(.slice a0 P c0, .slice a1 N c1)], rfl, by intro z hz; simp at hz; subst hz; exact HOK.out, by
    rw [HX.out] at r2
    simpa [blZ] using r2, fun i z u hz hu => by
    have bb := BB.out.tr b2
    match i, hz, hu with
    | 0, hz, hu => simp at hz hu; subst hz hu; exact ⟨HV.out.1.fresh bb, HT.out.1.fresh bb⟩
    | n + 1, hz, _ => simp at hz⟩
  replace K1 := Lib.hid (K1.out.fresh b2)
  replace BB := Lib.hid (BB.out.tr b2)
  clear r2 b2 s2
  go_wp2_with fail
  refine (much6_le F w2 _ [b] 1 BL.out).mono ?_
  rintro e w3 ⟨⟨Bm, rfl, hBm⟩, b3⟩
  have HBm := Lib.hid hBm
  replace K1 := Lib.hid (K1.out.fresh b3)
  replace BB := Lib.hid (BB.out.tr b3)
  clear b3 BL hBm
  cases Bm
  rotate_left
  · go_wp2_with fail
    refine (known6_any w3).mono ?_
    rintro e w5 ⟨rfl, b5⟩
    have BF := Lib.hid (BB.out.tr b5)
    clear b5
    go_wp2
    go_ret
    exact ⟨rfl, BF.out⟩
  have HSM : Hid (b.txs.length ≤ 1048576) := Lib.hid (by have := HBm.out rfl b (by simp); omega)
  clear HBm
  have C : Hid (Calls Try.prog 33 #[.agg X.toArray] w3 fun e w' => ∃ (a : Option Addr) (n c : Nat), e = .returned (.tuple #[.slice a n c, .int .i64 R]) ∧ (R = 0 → n = (blockB b).length ∧ w'.ownsRow w3.heap.size 5 1 (.slice a n c) n (bvs (blockB b))) ∧ (R ≠ 0 → n = 0) ∧ Below w3.heap.size w3 w') := Lib.hid (by
    rw [HX.out]
    by_cases h0 : R = 0
    · refine (blbytes_ok F w3 b _ _ HOK.out (HV.out.1.fresh BB.out) (HT.out.1.fresh BB.out) HT.out.2 HV.out.2 (by rw [← HR.out, h0])).mono ?_
      rintro e w' ⟨v', rfl, ov, bq⟩
      obtain ⟨a, c, rfl⟩ := (Rd.of_own ov).slice
      exact ⟨a, _, c, by rw [h0], fun _ => ⟨rfl, ov⟩, fun h => absurd h0 h, bq⟩
    · refine (blbytes_no F w3 b _ _ R HOK.out (HV.out.1.fresh BB.out) (HT.out.1.fresh BB.out) HT.out.2 HSM.out HR.out.symm h0).mono ?_
      rintro e w' ⟨rfl, bq⟩
      exact ⟨none, 0, 0, rfl, fun h => absurd h h0, fun _ => rfl, bq⟩)
  go_wp2_with (with_reducible refine stopAt 11 ?_)
  refine Stop.go ?_
  refine wpList_load_agg rfl 30 (.tmp 1) rfl ⟨w.heap.size, 0, none⟩ rfl X _ (At.block K1.out).load Try.underlying30 rfl (by rw [HXl.out]; exact infoBl) ?_
  go_wp2_with fail
  refine (C.out).mono ?_
  rintro e w4 ⟨ab, nb, cb, rfl, hyes, hno, b4⟩
  have HBY := Lib.hid (And.intro hyes hno)
  replace BB := Lib.hid (BB.out.tr b4)
  replace K1 := Lib.hid (K1.out.fresh b4)
  clear hyes hno b4 C
  go_wp2_with (with_reducible refine stopAt 15 ?_)
  refine Stop.go ?_
  refine wpList_load_agg rfl 30 (.tmp 1) rfl ⟨w.heap.size, 0, none⟩ rfl X _ (At.block K1.out).load Try.underlying30 rfl (by rw [HXl.out]; exact infoBl) ?_
  have C := rbcheck_any F w4 b _ _ HOK.out (HV.out.1.fresh BB.out) (HT.out.1.fresh BB.out) HT.out.2 HSM.out
  rw [← HR.out, ← HX.out] at C
  replace C := Lib.hid C
  go_wp2_with fail
  refine (C.out).mono ?_
  rintro e w5 ⟨rfl, b5⟩
  have OB : Hid (R = 0 → nb = (blockB b).length ∧ Rd w5 1 (.slice ab nb cb) nb (bvs (blockB b))) := Lib.hid (fun h => ⟨(HBY.out.1 h).1, (Rd.of_own (HBY.out.1 h).2).fresh b5⟩)
  have ON := Lib.hid HBY.out.2
  replace BB := Lib.hid (BB.out.tr b5)
  replace K1 := Lib.hid (K1.out.fresh b5)
  clear b5 C HBY
  go_wp2_with fail
  have hS : Hid (CB w5.drew 30 w.heap.size X) := Lib.hid K1.out.drew
  have bd : Below w5.heap.size w5 w5.drew := (Below.refl _ _).drew
  replace BB := Lib.hid (BB.out.tr bd)
  replace OB : Hid (R = 0 → nb = (blockB b).length ∧ Rd w5.drew 1 (.slice ab nb cb) nb (bvs (blockB b))) := Lib.hid (fun h => ⟨(OB.out h).1, (OB.out h).2.fresh bd⟩)
  obtain ⟨w6, hw6⟩ : ∃ w6, w6 = w5.drew := ⟨_, rfl⟩
  refine pl_start 20 rfl (fun w' => CB w' 30 w.heap.size X) (by kernel_rfl) ?_
  rw [← hw6] at hS BB OB ⊢
  clear hw6 bd K1
  refine pl_take (i := 0) 17 rfl rfl rfl (by kernel_rfl) (by kernel_rfl) (by kernel_rfl) (by simp [Act.put]) hS.out ?_
  apply Exists.intro
  refine And.intro (fun w' hS' => ?_) ?_
  · skip
    refine wpList_load_agg rfl 30 (.tmp 1) rfl ⟨w.heap.size, 0, none⟩ rfl X _ (At.block hS').load Try.underlying30 rfl (by rw [HXl.out]; exact infoBl) ?_
    clear hS'
    go_wp2
    first
      | exact ⟨trivial, rfl⟩
      | exact rfl
  refine pl_take (i := 3) 20 rfl rfl rfl (by kernel_rfl) (by kernel_rfl) (by kernel_rfl) (by simp [Act.put]) hS.out ?_
  apply Exists.intro
  refine And.intro (fun w' hS' => ?_) ?_
  · go_wp2
    first
      | exact ⟨trivial, rfl⟩
      | exact rfl
  have C := bcheck_any F w6 b _ _ HOK.out (HV.out.1.fresh BB.out) (HT.out.1.fresh BB.out) HT.out.2 HSM.out
  rw [← HR.out, ← HX.out] at C
  replace C := Lib.hid C
  refine pl_heavy (i := 1) rfl (by kernel_rfl) ?_
  skip
  go_wp2_with fail
  refine (C.out).mono ?_
  rintro e w7 ⟨rfl, bq⟩
  replace hS := Lib.hid (hS.out.fresh bq)
  replace BB := Lib.hid (BB.out.tr bq)
  replace OB : Hid (R = 0 → nb = (blockB b).length ∧ Rd w7 1 (.slice ab nb cb) nb (bvs (blockB b))) := Lib.hid (fun h => ⟨(OB.out h).1, (OB.out h).2.fresh bq⟩)
  clear bq
  go_wp2
  refine And.intro hS.out ?_
  clear C
  refine pl_heavy (i := 2) rfl (by kernel_rfl) ?_
  skip
  go_wp2_with fail
  refine (num6w_any w7 R).mono ?_
  rintro e wq ⟨rfl, rfl⟩
  go_wp2
  refine And.intro hS.out ?_
  refine pl_take (i := 4) 21 rfl rfl rfl (by kernel_rfl) (by kernel_rfl) (by kernel_rfl) (by simp [Act.put]) hS.out ?_
  apply Exists.intro
  refine And.intro (fun w' hS' => ?_) ?_
  · skip
    refine wpList_bin rfl .neq 3 3 (.tmp 19) (.tmp 20) rfl (.bool false) (int_guard _ _ _ _ _ _) (int_neq _ _) ?_
    clear hS'
    go_wp2
    exact ⟨trivial, rfl⟩
  refine pl_take (i := 5) 22 rfl rfl rfl (by kernel_rfl) (by kernel_rfl) (by kernel_rfl) (by simp [Act.put]) hS.out ?_
  apply Exists.intro
  refine And.intro (fun w' hS' => ?_) ?_
  · go_wp2
    first
      | exact ⟨trivial, rfl⟩
      | exact rfl
  refine pl_take (i := 6) 23 rfl rfl rfl (by kernel_rfl) (by kernel_rfl) (by kernel_rfl) (by simp [Act.put]) hS.out ?_
  apply Exists.intro
  refine And.intro (fun w' hS' => ?_) ?_
  · refine wpList_unguard' rfl ?_
    clear hS'
    go_wp2
    first
      | exact ⟨trivial, rfl⟩
      | exact rfl
  refine pl_take (i := 8) 25 rfl rfl rfl (by kernel_rfl) (by kernel_rfl) (by kernel_rfl) (by simp [Act.put]) hS.out ?_
  apply Exists.intro
  refine And.intro (fun w' hS' => ?_) ?_
  · refine wpList_unguard' rfl ?_
    clear hS'
    go_wp2
    first
      | exact ⟨trivial, rfl⟩
      | exact rfl
  refine pl_heavy (i := 7) rfl (by kernel_rfl) ?_
  refine wpList_unguard' rfl ?_
  go_wp2_with fail
  refine (num6w_any w7 R).mono ?_
  rintro e wq ⟨rfl, rfl⟩
  go_wp2
  refine And.intro hS.out ?_
  refine pl_take (i := 9) 26 rfl rfl rfl (by kernel_rfl) (by kernel_rfl) (by kernel_rfl) (by simp [Act.put]) hS.out ?_
  apply Exists.intro
  refine And.intro (fun w' hS' => ?_) ?_
  · refine wpList_unguard' rfl ?_
    refine wpList_bin rfl .neq 3 3 (.tmp 24) (.tmp 25) rfl (.bool false) (int_guard _ _ _ _ _ _) (int_neq _ _) ?_
    clear hS'
    go_wp2
    exact ⟨trivial, rfl⟩
  refine pl_take (i := 10) 27 rfl rfl rfl (by kernel_rfl) (by kernel_rfl) (by kernel_rfl) (by simp [Act.put]) hS.out ?_
  apply Exists.intro
  refine And.intro (fun w' hS' => ?_) ?_
  · go_wp2
    first
      | exact ⟨trivial, rfl⟩
      | exact rfl
  refine pl_take (i := 11) 28 rfl rfl rfl (by kernel_rfl) (by kernel_rfl) (by kernel_rfl) (by simp [Act.put]) hS.out ?_
  apply Exists.intro
  refine And.intro (fun w' hS' => ?_) ?_
  · go_wp2
    first
      | exact ⟨trivial, rfl⟩
      | exact rfl
  refine pl_take (i := 12) 29 rfl rfl rfl (by kernel_rfl) (by kernel_rfl) (by kernel_rfl) (by simp [Act.put]) hS.out ?_
  apply Exists.intro
  refine And.intro (fun w' hS' => ?_) ?_
  · refine wpList_unguard' rfl ?_
    clear hS'
    go_wp2
    first
      | exact ⟨trivial, rfl⟩
      | exact rfl
  refine pl_take (i := 13) 30 rfl rfl rfl (by kernel_rfl) (by kernel_rfl) (by kernel_rfl) (by simp [Act.put]) hS.out ?_
  apply Exists.intro
  refine And.intro (fun w' hS' => ?_) ?_
  · refine wpList_unguard' rfl ?_
    have hc := bl_cell (At.block (by rw [HX.out] at hS'; exact hS')) HOK.out
    clear hS'
    go_wp2
    first
      | exact ⟨trivial, rfl⟩
      | exact rfl
  refine pl_take (i := 15) 32 rfl rfl rfl (by kernel_rfl) (by kernel_rfl) (by kernel_rfl) (by simp [Act.put]) hS.out ?_
  apply Exists.intro
  refine And.intro (fun w' hS' => ?_) ?_
  · refine wpList_unguard' rfl ?_
    clear hS'
    go_wp2
    first
      | exact ⟨trivial, rfl⟩
      | exact rfl
  refine pl_take (i := 16) 33 rfl rfl rfl (by kernel_rfl) (by kernel_rfl) (by kernel_rfl) (by simp [Act.put]) hS.out ?_
  apply Exists.intro
  refine And.intro (fun w' hS' => ?_) ?_
  · refine wpList_unguard' rfl ?_
    have hc := bl_cell (At.block (by rw [HX.out] at hS'; exact hS')) HOK.out
    clear hS'
    go_wp2
    first
      | exact ⟨trivial, rfl⟩
      | exact rfl
  obtain ⟨Z, hZ⟩ : ∃ Z, Z = rootB (b.txs.map idB) := ⟨_, rfl⟩
  have HZl : Hid (Z.length = 32) := Lib.hid (by rw [hZ]; exact topB_length _ _)
  have HZ := Lib.hid hZ
  clear hZ
  have C := broot_any F w7 (.slice a1 N c1) b.txs (HT.out.1.fresh BB.out) HT.out.2 HSM.out
  rw [← HZ.out] at C
  replace C := Lib.hid C
  refine pl_heavy (i := 14) rfl (by kernel_rfl) ?_
  refine wpList_unguard' rfl ?_
  go_wp2_with fail
  refine (C.out).mono ?_
  rintro e w8 ⟨rfl, bq⟩
  replace hS := Lib.hid (hS.out.fresh bq)
  replace BB := Lib.hid (BB.out.tr bq)
  replace OB : Hid (R = 0 → nb = (blockB b).length ∧ Rd w8 1 (.slice ab nb cb) nb (bvs (blockB b))) := Lib.hid (fun h => ⟨(OB.out h).1, (OB.out h).2.fresh bq⟩)
  clear bq
  go_wp2
  refine And.intro hS.out ?_
  clear C
  have C := rbroot_any F w8 (.slice a1 N c1) b.txs (HT.out.1.fresh BB.out) HT.out.2 HSM.out
  rw [← HZ.out] at C
  replace C := Lib.hid C
  refine pl_heavy (i := 17) rfl (by kernel_rfl) ?_
  refine wpList_unguard' rfl ?_
  go_wp2_with fail
  refine (C.out).mono ?_
  rintro e w9 ⟨rfl, bq⟩
  replace hS := Lib.hid (hS.out.fresh bq)
  replace BB := Lib.hid (BB.out.tr bq)
  replace OB : Hid (R = 0 → nb = (blockB b).length ∧ Rd w9 1 (.slice ab nb cb) nb (bvs (blockB b))) := Lib.hid (fun h => ⟨(OB.out h).1, (OB.out h).2.fresh bq⟩)
  clear bq
  go_wp2
  refine And.intro hS.out ?_
  clear C
  refine pl_take (i := 18) 35 rfl rfl rfl (by kernel_rfl) (by kernel_rfl) (by kernel_rfl) (by simp [Act.put]) hS.out ?_
  apply Exists.intro
  refine And.intro (fun w' hS' => ?_) ?_
  · refine wpList_unguard' rfl ?_
    refine wpList_bin rfl .neq 24 24 (.tmp 31) (.tmp 34) rfl (.bool false) (eqGuard_agg _ _ _ _ _ _ _ (by kernel_rfl)) ((hash_ne _ Z Z HZl.out HZl.out).trans (by simp)) ?_
    clear hS'
    go_wp2
    exact ⟨trivial, rfl⟩
  refine pl_take (i := 19) 36 rfl rfl rfl (by kernel_rfl) (by kernel_rfl) (by kernel_rfl) (by simp [Act.put]) hS.out ?_
  apply Exists.intro
  refine And.intro (fun w' hS' => ?_) ?_
  · go_wp2
    first
      | exact ⟨trivial, rfl⟩
      | exact rfl
  refine pl_done (by kernel_rfl) ?_
  by_cases h0 : R = 0
  rotate_left
  · have hn0 := ON.out h0
    have hb1 : (R == 0) = false := by rw [beq_eq_false_iff_ne]; exact h0
    have hb2 : (R != 0) = true := by simp [bne, hb1]
    subst hn0
    clear h0 OB ON
    go_wp2_with fail
    refine (known6_any w9).mono ?_
    rintro e wb ⟨rfl, bq⟩
    have BF := Lib.hid (BB.out.tr bq)
    clear bq
    go_wp2
    go_ret
    exact ⟨rfl, BF.out⟩
  obtain ⟨enb, rdb⟩ := OB.out h0
  subst enb
  have HB2 := Lib.hid (And.intro trivial rdb)
  clear rdb
  have HZ0 := Lib.hid (blockE_zero (HR.out.symm.trans h0))
  have hb1 : (R == 0) = true := by rw [h0]; rfl
  have hb2 : (R != 0) = false := by rw [h0]; rfl
  clear h0 OB ON HZ HZl
  go_wp2_with fail
  have bd : Below w9.heap.size w9 w9.drew := (Below.refl _ _).drew
  have hS2 : Hid (CB w9.drew 30 w.heap.size X ∧ Rd w9.drew 1 (.slice ab (blockB b).length cb) (blockB b).length (bvs (blockB b))) := Lib.hid ⟨hS.out.drew, HB2.out.2.fresh bd⟩
  have BB2 := Lib.hid (BB.out.tr bd)
  obtain ⟨wb, hwb⟩ : ∃ wb, wb = w9.drew := ⟨_, rfl⟩
  refine pl_start 10 rfl (fun w' => CB w' 30 w.heap.size X ∧ Rd w' 1 (.slice ab (blockB b).length cb) (blockB b).length (bvs (blockB b))) (by kernel_rfl) ?_
  rw [← hwb] at hS2 BB2 ⊢
  clear hwb bd hS BB HB2
  refine pl_take (i := 0) 45 rfl rfl rfl (by kernel_rfl) (by kernel_rfl) (by kernel_rfl) (by simp [Act.put]) hS2.out ?_
  apply Exists.intro
  refine And.intro (fun w' hS' => ?_) ?_
  · go_wp2
    first
      | exact ⟨trivial, rfl⟩
      | exact rfl
  refine pl_take (i := 1) 46 rfl rfl rfl (by kernel_rfl) (by kernel_rfl) (by kernel_rfl) (by simp [Act.put]) hS2.out ?_
  apply Exists.intro
  refine And.intro (fun w' hS' => ?_) ?_
  · have hv := hS'.2.conv (P := Try.prog) 42 9 5 Try.underlying42 Try.underlying5 Try.underlying9
    clear hS'
    go_wp2
    exact ⟨trivial, rfl⟩
  refine pl_take (i := 2) 47 rfl rfl rfl (by kernel_rfl) (by kernel_rfl) (by kernel_rfl) (by simp [Act.put]) hS2.out ?_
  apply Exists.intro
  refine And.intro (fun w' hS' => ?_) ?_
  · refine wpList_load_agg rfl 30 (.tmp 1) rfl ⟨w.heap.size, 0, none⟩ rfl X _ (At.block hS'.1).load Try.underlying30 rfl (by rw [HXl.out]; exact infoBl) ?_
    clear hS'
    go_wp2
    first
      | exact ⟨trivial, rfl⟩
      | exact rfl
  have C := rbpack_any F wb b _ _ HOK.out (HV.out.1.fresh BB2.out) (HT.out.1.fresh BB2.out) HT.out.2 HV.out.2 HZ0.out.1 HZ0.out.2.2 HZ0.out.2.1
  rw [← HX.out] at C
  replace C := Lib.hid C
  refine pl_heavy (i := 3) rfl (by kernel_rfl) ?_
  go_wp2_with fail
  refine (C.out).mono ?_
  rintro e wc ⟨v5, rfl, o5, b5⟩
  obtain ⟨a5, c5, rfl⟩ := (Rd.of_own o5).slice
  have R5 := Lib.hid (Rd.of_own o5)
  have BB3 := Lib.hid (BB2.out.tr b5)
  replace hS2 := Lib.hid (And.intro (hS2.out.1.fresh b5) (hS2.out.2.fresh b5))
  clear o5 b5 C
  go_wp2
  refine And.intro hS2.out ?_
  refine pl_heavy (i := 4) rfl (by kernel_rfl) ?_
  have hv := R5.out.conv (P := Try.prog) 42 9 5 Try.underlying42 Try.underlying5 Try.underlying9
  go_wp2
  refine And.intro hS2.out ?_
  clear hv
  refine pl_take (i := 5) 50 rfl rfl rfl (by kernel_rfl) (by kernel_rfl) (by kernel_rfl) (by simp [Act.put]) hS2.out ?_
  apply Exists.intro
  refine And.intro (fun w' hS' => ?_) ?_
  · refine wpList_bin rfl .eql 9 9 (.tmp 46) (.tmp 49) rfl (.bool true) (str_guard _ _ _ _ _ _) (str_eql _ _) ?_
    clear hS'
    go_wp2
    exact ⟨trivial, rfl⟩
  refine pl_take (i := 6) 51 rfl rfl rfl (by kernel_rfl) (by kernel_rfl) (by kernel_rfl) (by simp [Act.put]) hS2.out ?_
  apply Exists.intro
  refine And.intro (fun w' hS' => ?_) ?_
  · go_wp2
    first
      | exact ⟨trivial, rfl⟩
      | exact rfl
  refine pl_heavy (i := 7) rfl (by kernel_rfl) ?_
  refine wpList_unguard' rfl ?_
  go_wp2_with fail
  refine (known6_any wc).mono ?_
  rintro e wd ⟨rfl, b6⟩
  replace hS2 := Lib.hid (And.intro (hS2.out.1.fresh b6) (hS2.out.2.fresh b6))
  have BB4 := Lib.hid (BB3.out.tr b6)
  clear b6
  go_wp2
  refine And.intro hS2.out ?_
  refine pl_take (i := 8) 53 rfl rfl rfl (by kernel_rfl) (by kernel_rfl) (by kernel_rfl) (by simp [Act.put]) hS2.out ?_
  apply Exists.intro
  refine And.intro (fun w' hS' => ?_) ?_
  · go_wp2
    first
      | exact ⟨trivial, rfl⟩
      | exact rfl
  refine pl_take (i := 9) 2 rfl rfl rfl (by kernel_rfl) (by kernel_rfl) (by kernel_rfl) (by simp [Act.put]) hS2.out ?_
  apply Exists.intro
  refine And.intro (fun w' hS' => ?_) ?_
  · go_wp2
    first
      | exact ⟨trivial, rfl⟩
      | exact rfl
  refine pl_done (by kernel_rfl) ?_
  go_wp2
  go_ret
  exact ⟨rfl, BB4.out⟩

end Go.Proofs.Ytkbahhnjoidhcaa
