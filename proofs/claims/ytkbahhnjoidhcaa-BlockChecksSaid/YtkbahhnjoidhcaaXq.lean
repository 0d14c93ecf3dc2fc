/- block.HeaderBytes: the walk. -/
import Derived.Test.YtkbahhnjoidhcaaWc
import Derived.Test.YtkbahhnjoidhcaaXk
import Derived.Test.YtkbahhnjoidhcaaXl
namespace Go.Proofs.Ytkbahhnjoidhcaa
set_option linter.unusedVariables false
set_option linter.unusedSimpArgs false
open Go.RowKit

theorem IsW.newT (w : World) : IsW (w.alloc (.cells #[.slice none 0 0, .bool false] 105)) w.heap.size w.heap.size (some []) :=
  ⟨Nat.le_refl _, .slice none 0 0, [], heap_alloc_new w _, World.ownsRow_nil _ _ _ _, fun l h => by cases h; rfl⟩

/-- A header's bytes, of not too many parents. -/
def hdB (x : HdD) : Bs := le x.par.length 2 ++ x.par.flatten ++ (x.root ++ (x.acc ++ (x.coins ++ (x.miner ++ le x.nonce.toNat 8))))

theorem countB_ok (n : Nat) (h : n ≤ 65535) : countB (n : Int) = some (le n 2) := by
  unfold countB
  simp
  omega

theorem flat_len32 {l : List Bs} (h : H32 l) (k : Nat) : ((l.take k).flatten).length ≤ l.length * 32 := by
  rw [(h.take k).flat, List.length_take]
  have := Nat.min_le_right k l.length
  omega

theorem le_len (n k : Nat) : (le n k).length = k := by simp

theorem lenT {l : Bs} {n : Nat} (h : l.length + n ≤ 1099511627776) : lenOk (some l) n := fun xs e => by
  cases e
  exact h

set_option maxRecDepth 100000 in
set_option maxHeartbeats 4000000 in
theorem hdbytes_ok (w : World) (x : HdD) (v : Value) (hx : HdOk x) (hv : Hs w v x.par) (hn : 0 ≤ x.nonce ∧ x.nonce < 18446744073709551616) (hp : x.par.length ≤ 255) :
    Calls Try.prog 40 #[.agg (hdC x v).toArray] w fun e w' => ∃ v', e = .returned (.tuple #[v', .int .i64 0]) ∧ w'.ownsRow w.heap.size 5 1 v' (hdB x).length (bvs (hdB x)) ∧ Below w.heap.size w w' := by
  obtain ⟨a0, c0, rfl⟩ := hv.slice
  obtain ⟨N, hN⟩ : ∃ N, N = x.par.length := ⟨_, rfl⟩
  rw [← hN] at hv hp ⊢
  have bN' : (N : Int) ≤ 255 := by omega
  have HV := Lib.hid hv
  have HN := Lib.hid hN
  have HX := Lib.hid hx
  have HO := Lib.hid hn
  obtain ⟨X, hX⟩ : ∃ X, X = hdC x (.slice a0 N c0) := ⟨_, rfl⟩
  rw [← hX]
  have HXX := Lib.hid hX
  clear hv hN hx hn hp hX
  go_enter Try.func40, Try.ntmps40
  go_wp2_with (with_reducible refine stopAt 8 ?_)
  refine Stop.go ?_
  obtain ⟨w1, h1, k1, b1, s1⟩ := alloc_cb w 27 X
  change wpList _ _ _ _ _ (w.alloc (.cells X.toArray 27))
  rw [← h1]
  have A1 : At w1 w.heap.size 0 (hdC x (.slice a0 N c0)) := by rw [← HXX.out]; exact At.block k1
  have hc1 := hd_cell A1
  have AA := Lib.hid A1
  have BB := Lib.hid b1
  have Z1 : Hid (w1.heap.size = w.heap.size + 1) := Lib.hid s1
  clear h1 k1 b1 s1 A1
  obtain ⟨mm, hmm⟩ := Int.eq_ofNat_of_zero_le HO.out.1
  have HM : Hid (x.nonce.toNat = mm ∧ mm < 18446744073709551616) := Lib.hid ⟨by omega, by have := HO.out.2; omega⟩
  have HNC := Lib.hid hmm
  clear hmm
  have HL2 : Hid ((le N 2).length = 2) := Lib.hid (le_len N 2)
  have HFL : Hid (x.par.flatten.length ≤ 255 * 32) := Lib.hid (by rw [HV.out.1.flat]; have := HN.out; omega)
  go_wp2_with (with_reducible refine stopAt 13 ?_)
  refine Stop.go ?_
  clear hc1
  obtain ⟨w2, hw2⟩ : ∃ w2, w2 = w1.alloc (.cells #[.slice none 0 0, .bool false] 105) := ⟨_, rfl⟩
  have hI := IsW.newT w1
  rw [← hw2] at hI
  have b2 : Below w1.heap.size w1 w2 := by rw [hw2]; exact (Below.refl _ w1).alloc (Nat.le_refl _) _
  rw [← hw2]
  obtain ⟨B, hB⟩ : ∃ B, B = w1.heap.size := ⟨_, rfl⟩
  have LB : Hid (w.heap.size < B ∧ w.heap.size ≤ B) := Lib.hid ⟨by rw [hB, Z1.out]; omega, by rw [hB, Z1.out]; omega⟩
  rw [← hB] at hI ⊢
  have II := Lib.hid hI
  replace AA := Lib.hid (AA.out.fresh b2)
  replace BB := Lib.hid (BB.out.tr b2)
  clear hI hw2 b2 hB
  have hc2 := hd_cell AA.out
  go_wp2_with fail
  refine (Count_any w2 B B (some []) II.out (N : Int) (lenT (by simp))).mono ?_
  rintro e w3 ⟨rfl, hi, mw⟩
  clear hc2
  have b3 := mw.below II.out
  replace AA := Lib.hid (AA.out.below b3 LB.out.1)
  replace BB := Lib.hid (BB.out.trans (b3.mono LB.out.2))
  rw [countB_ok N (by omega)] at hi
  replace II : Hid (IsW w3 B B (some (le N 2))) := Lib.hid hi
  clear hi mw b3
  have hc2 := hd_cell AA.out
  go_wp2
  clear hc2
  go_loopw [6, 19] (fun v6 v19 wr => Below w.heap.size w wr ∧ At wr w.heap.size 0 (hdC x (.slice a0 N c0)) ∧ ∃ k : Nat, k ≤ N ∧ v19 = .int .i64 (k : Int) ∧ IsW wr B B (some (le N 2 ++ (x.par.take k).flatten)))
    (fun _ v _ => N - (RowKit.intOf v).toNat)
  case atStart => exact ⟨BB.out, AA.out, 0, Nat.zero_le _, rfl, by simpa using II.out⟩
  case round =>
    obtain ⟨hb, ha, k, hk, rfl, hi⟩ := hrel
    replace BB := Lib.hid hb
    replace AA := Lib.hid ha
    replace II := Lib.hid hi
    clear hb ha hi
    by_cases hlt : k < N
    · obtain ⟨y, hy⟩ : ∃ y, x.par[k]? = some y := ⟨_, List.getElem?_eq_getElem (by rw [← HN.out]; exact hlt)⟩
      obtain ⟨ad, c, he⟩ := HV.out.isSome HN.out.symm (by omega)
      simp only [Value.slice.injEq, true_and] at he
      obtain ⟨rfl, rfl⟩ := he
      have HY := Lib.hid (And.intro hy (HV.out.1.get hy))
      have HU := Lib.hid (HV.out.fresh BB.out)
      have ik : (k : Int) < (N : Int) := by omega
      have HK := Lib.hid hlt
      clear hy hlt hk
      go_wp2_with (with_reducible refine stopAt 22 ?_)
      refine Stop.go ?_
      refine wpList_load_agg rfl 24 (.tmp 21) rfl (ad.add (k * 32)) rfl (bvs y) _ (HU.out.elem' HY.out.1) Try.underlying24 rfl (by rw [bvs_length, HY.out.2]; exact infoHash) ?_
      go_wp2_with (with_reducible refine stopStore 24 ?_)
      refine Stop.go ?_
      refine wpList_store_var rfl 24 (.tmp 6) (.tmp 22) rfl wr.heap.size _ rfl _ (bvs y) rfl (heap_alloc_new wr _) (by simp [HY.out.2]) (bvs_one _) (by rw [bvs_length, HY.out.2]; exact infoHash) ?_
      intro w5 kw5 ow5
      have bw5 : Below wr.heap.size wr w5 := Below.only ((Below.refl _ wr).alloc (Nat.le_refl _) _) ow5 (Nat.le_refl _)
      replace kw5 : CB w5 24 wr.heap.size (bvs y) := kw5
      clear ow5
      obtain ⟨G, hG⟩ : ∃ G, G = wr.heap.size := ⟨_, rfl⟩
      rw [← hG] at kw5 ⊢
      have KG := Lib.hid kw5
      replace BB := Lib.hid (BB.out.tr bw5)
      replace AA := Lib.hid (AA.out.fresh bw5)
      replace II := Lib.hid (II.out.fresh bw5)
      clear kw5 bw5 hG
      go_wp2_with (with_reducible refine stopAt 24 ?_)
      refine Stop.go ?_
      refine wpList_load_agg rfl 24 (.tmp 6) rfl (⟨G, 0, none⟩) rfl (bvs y) _ ((At.block KG.out).load) Try.underlying24 rfl (by rw [bvs_length, HY.out.2]; exact infoHash) ?_
      have hlen : (le N 2 ++ (x.par.take k).flatten).length + 32 ≤ 1099511627776 := by
        have h1 := flat_len32 HV.out.1 k
        have h2 := HN.out
        have h3 := le_len N 2
        simp only [List.length_append]
        omega
      go_wp2_with fail
      refine (Hash_any w5 B B _ II.out y HY.out.2 (lenT hlen)).mono ?_
      rintro e w6 ⟨rfl, hi, mw⟩
      have b6 := mw.below II.out
      have Q1 := Lib.hid (BB.out.trans (b6.mono LB.out.2))
      have Q2 := Lib.hid (AA.out.below b6 LB.out.1)
      have Q3 : Hid (IsW w6 B B (some (le N 2 ++ (x.par.take (k + 1)).flatten))) := Lib.hid (by
        rw [List.take_add_one, HY.out.1]
        simpa [wput] using hi)
      clear hi mw b6 hlen
      go_wp2
      go_roundw
      case rel => exact ⟨Q1.out, Q2.out, k + 1, HK.out, by go_num, Q3.out⟩
      case measure => simp only [RowKit.intOf]; have := HK.out; omega
    · have ik : ¬ ((k : Int) < (N : Int)) := by omega
      replace II : Hid (IsW wr B B (some (le N 2 ++ x.par.flatten))) := Lib.hid (by
        have h1 := II.out
        rw [List.take_of_length_le (by have := HN.out; omega)] at h1
        exact h1)
      clear hlt hk
      obtain ⟨w6, hw6⟩ : ∃ w6, w6 = wr := ⟨_, rfl⟩
      rw [← hw6] at II AA BB ⊢
      clear hw6
      go_wp2_with fail
      have hS : Hid (At w6.drew w.heap.size 0 (hdC x (.slice a0 N c0))) := Lib.hid AA.out
      refine pl_start 21 rfl (fun w' => At w' w.heap.size 0 (hdC x (.slice a0 N c0))) (by kernel_rfl) ?_
      obtain ⟨u0, hu0⟩ : ∃ u0, u0 = w6.drew := ⟨_, rfl⟩
      have I0 : Hid (IsW u0 B B (some (le N 2 ++ x.par.flatten))) := Lib.hid (by rw [hu0]; exact II.out)
      have B0 : Hid (Below w.heap.size w u0) := Lib.hid (by rw [hu0]; exact BB.out.drew)
      rw [← hu0] at hS ⊢
      clear hu0 II BB AA
      refine pl_take (i := 0) 27 rfl rfl rfl (by kernel_rfl) (by kernel_rfl) (by kernel_rfl) (by simp [Act.put]) hS.out ?_
      apply Exists.intro
      refine And.intro (fun w' hS' => ?_) ?_
      · go_wp2
        first
          | exact ⟨trivial, rfl⟩
          | exact rfl
      refine pl_take (i := 1) 28 rfl rfl rfl (by kernel_rfl) (by kernel_rfl) (by kernel_rfl) (by simp [Act.put]) hS.out ?_
      apply Exists.intro
      refine And.intro (fun w' hS' => ?_) ?_
      · go_wp2
        first
          | exact ⟨trivial, rfl⟩
          | exact rfl
      refine pl_take (i := 2) 29 rfl rfl rfl (by kernel_rfl) (by kernel_rfl) (by kernel_rfl) (by simp [Act.put]) hS.out ?_
      apply Exists.intro
      refine And.intro (fun w' hS' => ?_) ?_
      · refine wpList_load_agg rfl 24 (.tmp 28) rfl (⟨w.heap.size, 1, none⟩) rfl (bvs x.root) _ ((hd_at hS' HX.out).2.1.load) Try.underlying24 rfl (by rw [bvs_length, HX.out.1]; exact infoHash) ?_
        clear hS'
        go_wp2
        exact ⟨trivial, rfl⟩
      refine pl_take (i := 4) 31 rfl rfl rfl (by kernel_rfl) (by kernel_rfl) (by kernel_rfl) (by simp [Act.put]) hS.out ?_
      apply Exists.intro
      refine And.intro (fun w' hS' => ?_) ?_
      · go_wp2
        first
          | exact ⟨trivial, rfl⟩
          | exact rfl
      refine pl_take (i := 5) 32 rfl rfl rfl (by kernel_rfl) (by kernel_rfl) (by kernel_rfl) (by simp [Act.put]) hS.out ?_
      apply Exists.intro
      refine And.intro (fun w' hS' => ?_) ?_
      · refine wpList_load_agg rfl 24 (.tmp 31) rfl (⟨w.heap.size, 33, none⟩) rfl (bvs x.acc) _ ((hd_at hS' HX.out).2.2.1.load) Try.underlying24 rfl (by rw [bvs_length, HX.out.2.1]; exact infoHash) ?_
        clear hS'
        go_wp2
        exact ⟨trivial, rfl⟩
      refine pl_take (i := 7) 34 rfl rfl rfl (by kernel_rfl) (by kernel_rfl) (by kernel_rfl) (by simp [Act.put]) hS.out ?_
      apply Exists.intro
      refine And.intro (fun w' hS' => ?_) ?_
      · go_wp2
        first
          | exact ⟨trivial, rfl⟩
          | exact rfl
      refine pl_take (i := 8) 35 rfl rfl rfl (by kernel_rfl) (by kernel_rfl) (by kernel_rfl) (by simp [Act.put]) hS.out ?_
      apply Exists.intro
      refine And.intro (fun w' hS' => ?_) ?_
      · refine wpList_load_agg rfl 24 (.tmp 34) rfl (⟨w.heap.size, 65, none⟩) rfl (bvs x.coins) _ ((hd_at hS' HX.out).2.2.2.1.load) Try.underlying24 rfl (by rw [bvs_length, HX.out.2.2.1]; exact infoHash) ?_
        clear hS'
        go_wp2
        exact ⟨trivial, rfl⟩
      refine pl_take (i := 10) 37 rfl rfl rfl (by kernel_rfl) (by kernel_rfl) (by kernel_rfl) (by simp [Act.put]) hS.out ?_
      apply Exists.intro
      refine And.intro (fun w' hS' => ?_) ?_
      · go_wp2
        first
          | exact ⟨trivial, rfl⟩
          | exact rfl
      refine pl_take (i := 11) 38 rfl rfl rfl (by kernel_rfl) (by kernel_rfl) (by kernel_rfl) (by simp [Act.put]) hS.out ?_
      apply Exists.intro
      refine And.intro (fun w' hS' => ?_) ?_
      · refine wpList_load_agg rfl 24 (.tmp 37) rfl (⟨w.heap.size, 97, none⟩) rfl (bvs x.miner) _ ((hd_at hS' HX.out).2.2.2.2.1.load) Try.underlying24 rfl (by rw [bvs_length, HX.out.2.2.2]; exact infoHash) ?_
        clear hS'
        go_wp2
        exact ⟨trivial, rfl⟩
      refine pl_take (i := 13) 40 rfl rfl rfl (by kernel_rfl) (by kernel_rfl) (by kernel_rfl) (by simp [Act.put]) hS.out ?_
      apply Exists.intro
      refine And.intro (fun w' hS' => ?_) ?_
      · go_wp2
        first
          | exact ⟨trivial, rfl⟩
          | exact rfl
      refine pl_take (i := 14) 41 rfl rfl rfl (by kernel_rfl) (by kernel_rfl) (by kernel_rfl) (by simp [Act.put]) hS.out ?_
      apply Exists.intro
      refine And.intro (fun w' hS' => ?_) ?_
      · have hc := (hd_at hS' HX.out).2.2.2.2.2.cell0'
        clear hS'
        go_wp2
        exact ⟨trivial, rfl⟩
      refine pl_heavy (i := 3) rfl (by kernel_rfl) ?_
      go_wp2_with fail
      refine (Hash_any u0 B B (some (le N 2 ++ x.par.flatten)) I0.out x.root HX.out.1 (lenT (by simp only [List.length_append]; have := HFL.out; have := HL2.out; have := HX.out.1; have := HX.out.2.1; have := HX.out.2.2.1; have := HX.out.2.2.2; omega))).mono ?_
      rintro e u1 ⟨rfl, hi, mw⟩
      have b := mw.below I0.out
      replace hS := Lib.hid (hS.out.below b LB.out.1)
      have B1 : Hid (Below w.heap.size w u1) := Lib.hid (B0.out.trans (b.mono LB.out.2))
      have I1 : Hid (IsW u1 B B (some ((le N 2 ++ x.par.flatten) ++ x.root))) := Lib.hid hi
      clear hi mw b
      go_wp2
      refine And.intro hS.out ?_
      refine pl_heavy (i := 6) rfl (by kernel_rfl) ?_
      go_wp2_with fail
      refine (Hash_any u1 B B (some ((le N 2 ++ x.par.flatten) ++ x.root)) I1.out x.acc HX.out.2.1 (lenT (by simp only [List.length_append]; have := HFL.out; have := HL2.out; have := HX.out.1; have := HX.out.2.1; have := HX.out.2.2.1; have := HX.out.2.2.2; omega))).mono ?_
      rintro e u2 ⟨rfl, hi, mw⟩
      have b := mw.below I1.out
      replace hS := Lib.hid (hS.out.below b LB.out.1)
      have B2 : Hid (Below w.heap.size w u2) := Lib.hid (B1.out.trans (b.mono LB.out.2))
      have I2 : Hid (IsW u2 B B (some (((le N 2 ++ x.par.flatten) ++ x.root) ++ x.acc))) := Lib.hid hi
      clear hi mw b
      go_wp2
      refine And.intro hS.out ?_
      refine pl_heavy (i := 9) rfl (by kernel_rfl) ?_
      go_wp2_with fail
      refine (Hash_any u2 B B (some (((le N 2 ++ x.par.flatten) ++ x.root) ++ x.acc)) I2.out x.coins HX.out.2.2.1 (lenT (by simp only [List.length_append]; have := HFL.out; have := HL2.out; have := HX.out.1; have := HX.out.2.1; have := HX.out.2.2.1; have := HX.out.2.2.2; omega))).mono ?_
      rintro e u3 ⟨rfl, hi, mw⟩
      have b := mw.below I2.out
      replace hS := Lib.hid (hS.out.below b LB.out.1)
      have B3 : Hid (Below w.heap.size w u3) := Lib.hid (B2.out.trans (b.mono LB.out.2))
      have I3 : Hid (IsW u3 B B (some ((((le N 2 ++ x.par.flatten) ++ x.root) ++ x.acc) ++ x.coins))) := Lib.hid hi
      clear hi mw b
      go_wp2
      refine And.intro hS.out ?_
      refine pl_heavy (i := 12) rfl (by kernel_rfl) ?_
      go_wp2_with fail
      refine (Hash_any u3 B B (some ((((le N 2 ++ x.par.flatten) ++ x.root) ++ x.acc) ++ x.coins)) I3.out x.miner HX.out.2.2.2 (lenT (by simp only [List.length_append]; have := HFL.out; have := HL2.out; have := HX.out.1; have := HX.out.2.1; have := HX.out.2.2.1; have := HX.out.2.2.2; omega))).mono ?_
      rintro e u4 ⟨rfl, hi, mw⟩
      have b := mw.below I3.out
      replace hS := Lib.hid (hS.out.below b LB.out.1)
      have B4 : Hid (Below w.heap.size w u4) := Lib.hid (B3.out.trans (b.mono LB.out.2))
      have I4 : Hid (IsW u4 B B (some (((((le N 2 ++ x.par.flatten) ++ x.root) ++ x.acc) ++ x.coins) ++ x.miner))) := Lib.hid hi
      clear hi mw b
      go_wp2
      refine And.intro hS.out ?_
      obtain ⟨L4, hL4⟩ : ∃ L, L = ((((le N 2 ++ x.par.flatten) ++ x.root) ++ x.acc) ++ x.coins) ++ x.miner := ⟨_, rfl⟩
      have J4 : Hid (IsW u4 B B (some L4)) := Lib.hid (by rw [hL4]; exact I4.out)
      have HLL := Lib.hid hL4
      have hll : L4.length + 8 ≤ 1099511627776 := by
        rw [hL4]
        simp only [List.length_append]
        have := HFL.out
        have := HL2.out
        have := HX.out.1
        have := HX.out.2.1
        have := HX.out.2.2.1
        have := HX.out.2.2.2
        omega
      have CN := Lib.hid (Number_any u4 B B (some L4) J4.out mm HM.out.2 8 (fun xs e => by cases e; exact hll))
      clear hll hL4
      rw [HNC.out]
      refine pl_heavy (i := 15) rfl (by kernel_rfl) ?_
      go_wp2_with fail
      refine (CN.out).mono ?_
      rintro e u5 ⟨rfl, hi, mw⟩
      have hp64 : mm < 2 ^ (8 * (8 : Int).toNat) := by simpa using HM.out.2
      rw [numB_ok mm 8 rfl hp64] at hi
      have b := mw.below J4.out
      replace hS := Lib.hid (hS.out.below b LB.out.1)
      have B5 : Hid (Below w.heap.size w u5) := Lib.hid (B4.out.trans (b.mono LB.out.2))
      have I5 : Hid (IsW u5 B B (some ((((((le N 2 ++ x.par.flatten) ++ x.root) ++ x.acc) ++ x.coins) ++ x.miner) ++ le mm 8))) := Lib.hid (by rw [← HLL.out]; exact hi)
      clear hi mw b
      go_wp2
      refine And.intro hS.out ?_
      have I6 : Hid (IsW u5 B B (some (hdB x))) := Lib.hid (by
        have h9 := I5.out
        have e : (((((le N 2 ++ x.par.flatten) ++ x.root) ++ x.acc) ++ x.coins) ++ x.miner) ++ le mm 8 = hdB x := by
          unfold hdB
          rw [← HN.out, HM.out.1]
          simp
        rw [e] at h9
        exact h9)
      clear I0 I1 I2 I3 I4 I5 B0 B1 B2 B3 B4
      obtain ⟨Z, hZ⟩ : ∃ Z, Z = hdB x := ⟨_, rfl⟩
      have HZ : Hid (Z.length ≤ 1099511627776) := Lib.hid (by rw [hZ, hdB]; simp only [List.length_append]; have := HFL.out; have := le_len x.par.length 2; have := le_len x.nonce.toNat 8; have := HX.out.1; have := HX.out.2.1; have := HX.out.2.2.1; have := HX.out.2.2.2; omega)
      rw [← hZ] at I6
      have HZ0 := Lib.hid hZ
      clear hZ
      refine pl_heavy (i := 16) rfl (by kernel_rfl) ?_
      go_wp2_with fail
      refine (End_good u5 B B Z I6.out HZ.out).mono ?_
      rintro e u6 ⟨v', rfl, ov, b6⟩
      have OV := Lib.hid (own_lower' ov B5.out.size)
      have B6 := Lib.hid (B5.out.tr b6)
      replace hS := Lib.hid (hS.out.fresh b6)
      clear ov b6
      go_wp2
      refine And.intro hS.out ?_
      refine pl_take (i := 17) 44 rfl rfl rfl (by kernel_rfl) (by kernel_rfl) (by kernel_rfl) (by simp [Act.put]) hS.out ?_
      apply Exists.intro
      refine And.intro (fun w' hS' => ?_) ?_
      · go_wp2
        first
          | exact ⟨trivial, rfl⟩
          | exact rfl
      refine pl_take (i := 18) 45 rfl rfl rfl (by kernel_rfl) (by kernel_rfl) (by kernel_rfl) (by simp [Act.put]) hS.out ?_
      apply Exists.intro
      refine And.intro (fun w' hS' => ?_) ?_
      · go_wp2
        first
          | exact ⟨trivial, rfl⟩
          | exact rfl
      refine pl_take (i := 19) 2 rfl rfl rfl (by kernel_rfl) (by kernel_rfl) (by kernel_rfl) (by simp [Act.put]) hS.out ?_
      apply Exists.intro
      refine And.intro (fun w' hS' => ?_) ?_
      · go_wp2
        first
          | exact ⟨trivial, rfl⟩
          | exact rfl
      refine pl_take (i := 20) 3 rfl rfl rfl (by kernel_rfl) (by kernel_rfl) (by kernel_rfl) (by simp [Act.put]) hS.out ?_
      apply Exists.intro
      refine And.intro (fun w' hS' => ?_) ?_
      · go_wp2
        first
          | exact ⟨trivial, rfl⟩
          | exact rfl
      refine pl_done (by kernel_rfl) ?_
      go_wp2
      go_ret2
      exact ⟨v', rfl, by rw [← HZ0.out]; exact OV.out, B6.out⟩

end Go.Proofs.Ytkbahhnjoidhcaa
