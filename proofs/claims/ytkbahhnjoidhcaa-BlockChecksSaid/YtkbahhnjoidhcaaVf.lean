/- tx.pack: the walk. -/
import Derived.Test.YtkbahhnjoidhcaaXq
import Derived.Test.YtkbahhnjoidhcaaWb
import Derived.Test.YtkbahhnjoidhcaaVw
import Derived.Test.YtkbahhnjoidhcaaVb
namespace Go.Proofs.Ytkbahhnjoidhcaa
set_option linter.unusedVariables false
set_option linter.unusedSimpArgs false
open Go.RowKit

/-- A block that is not the writer's. -/
def NF (w : World) (b g : Nat) : Prop := g < w.heap.size ∧ ¬ Fp w b g
theorem NF.mw {w w' : World} {b g : Nat} (h : NF w b g) (hm : MW b w w') : NF w' b g := ⟨Nat.lt_of_lt_of_le h.1 hm.size, fun hf => (hm.fp g hf).elim h.2 (fun e => by have := h.1; omega)⟩
theorem CB.mw {w w' : World} {b g : Nat} {e : TypeId} {L : List Value} (hc : CB w e g L) (h : NF w b g) (hm : MW b w w') : CB w' e g L := by
  unfold CB at *
  rw [hm.block g h.1 h.2]
  exact hc
theorem NF.new {w w' : World} {B b : Nat} {st : Option (List UInt8)} (hw : IsW w B b st) (hb : Below w.heap.size w w') (hs : w.heap.size < w'.heap.size) : NF w' b w.heap.size := by
  refine ⟨hs, fun hf => ?_⟩
  have hc : w'.cell? ⟨b, 0, none⟩ = w.cell? ⟨b, 0, none⟩ := hb.cell (p := ⟨b, 0, none⟩) hw.lt
  have hf' : Fp w b w.heap.size := by
    unfold Fp at *
    rw [hc] at hf
    exact hf
  have := hw.fpLt hf'
  omega

theorem inpB_len {i : InD} (h : InOk i) : (inpB i).length = 40 + i.wit.length := by
  unfold InOk at h
  simp only [inpB, List.length_append, le_len, h]
  omega
theorem outpB_len {o : OutD} (h : OutOk o) : (outpB o).length = 40 := by
  unfold OutOk at h
  simp only [outpB, List.length_append, le_len, h]

theorem infoOutP : (Try.prog.info? 46).map (·.size) = some 33 := by kernel_rfl

theorem blobB_ok (ys : Bs) (h : ys.length ≤ 16777216) : blobB ys = some (le ys.length 4 ++ ys) := by simp [blobB, h]

set_option maxRecDepth 100000 in
set_option maxHeartbeats 4000000 in
theorem pack_any (F : Nat → Prop) (w : World) (x : TxD) (u : Value × Value) (hi : Ins F w u.1 x.ins) (ho : Outs F w u.2 x.outs) (hwf : TxWf x) (hs : x.ins.length ≤ 64 ∧ x.outs.length ≤ 64 ∧ Short x.ins) :
    Calls Try.prog 44 #[.agg (txC (x, u)).toArray] w fun e w' => ∃ v' : Value, e = .returned v' ∧ w'.ownsRow w.heap.size 5 1 v' (packB x).length (bvs (packB x)) ∧ Below w.heap.size w w' := by
  obtain ⟨u1, u2⟩ := u
  change Calls _ _ #[.agg #[u1, u2, .int .u64 x.nonce]] _ _
  obtain ⟨a0, c0, he⟩ := hi.slice
  change u1 = _ at he
  subst he
  obtain ⟨a2, c2, he⟩ := ho.slice
  change u2 = _ at he
  subst he
  obtain ⟨N, hN⟩ : ∃ N, N = x.ins.length := ⟨_, rfl⟩
  obtain ⟨K, hK⟩ : ∃ K, K = x.outs.length := ⟨_, rfl⟩
  rw [← hN] at hi hs
  rw [← hK] at ho hs
  rw [← hN, ← hK]
  obtain ⟨us, hlu, hoku, hru, heu⟩ := hi
  obtain ⟨hou, hrou⟩ := ho
  rw [← hN] at hlu hru
  rw [← hK] at hrou
  change RdF F w 34 (.slice a0 N c0) N _ at hru
  change RdF F w 33 (.slice a2 K c2) K _ at hrou
  have bN' : (N : Int) ≤ 9223372036854775807 := rd_small' hru.1
  have bK' : (K : Int) ≤ 9223372036854775807 := rd_small' hrou.1
  have HI := Lib.hid (And.intro hru.1 hrou.1)
  have HE := Lib.hid heu
  have HL := Lib.hid (And.intro hN (And.intro hK hlu))
  have HOK := Lib.hid (And.intro hoku hou)
  have HW := Lib.hid hwf
  have HS := Lib.hid hs
  have HFI : Hid (∀ k, ((x.ins.take k).flatMap inpB).length ≤ 64 * 296) := Lib.hid (fun k => by
    have h1 := flatMap_len inpB 296 (x.ins.take k) (fun i hi => by rw [inpB_len (hoku i (List.mem_of_mem_take hi))]; have := hs.2.2 i (List.mem_of_mem_take hi); omega)
    have h2 : (x.ins.take k).length ≤ 64 := by rw [List.length_take]; have := hs.1; omega
    have h3 : (x.ins.take k).length * 296 ≤ 64 * 296 := Nat.mul_le_mul_right _ h2
    omega)
  have HFO : Hid (∀ k, ((x.outs.take k).flatMap outpB).length ≤ 64 * 40) := Lib.hid (fun k => by
    have h1 := flatMap_len outpB 40 (x.outs.take k) (fun o ho => by rw [outpB_len (hou o (List.mem_of_mem_take ho))]; exact Nat.le_refl _)
    have h2 : (x.outs.take k).length ≤ 64 := by rw [List.length_take]; have := hs.2.1; omega
    have h3 : (x.outs.take k).length * 40 ≤ 64 * 40 := Nat.mul_le_mul_right _ h2
    omega)
  clear hlu hoku hru heu hou hrou hN hK hwf hs
  obtain ⟨mm, hmm⟩ := Int.eq_ofNat_of_zero_le HW.out.2.2.1
  have HM : Hid (x.nonce.toNat = mm ∧ mm < 18446744073709551616) := Lib.hid ⟨by omega, by have := HW.out.2.2.2; omega⟩
  rw [show x.nonce = (mm : Int) from hmm]
  clear hmm
  go_enter Try.func44, Try.ntmps44
  go_wp2_with (with_reducible refine stopAt 10 ?_)
  refine Stop.go ?_
  obtain ⟨w1, h1, k1, b1, s1⟩ := alloc_cb w 37 [.slice a0 N c0, .slice a2 K c2, .int .u64 (mm : Int)]
  change wpList _ _ _ _ _ (w.alloc (.cells [.slice a0 N c0, .slice a2 K c2, .int .u64 (mm : Int)].toArray 37))
  rw [← h1]
  have K1 : Hid (CB w1 37 w.heap.size [.slice a0 N c0, .slice a2 K c2, .int .u64 (mm : Int)]) := Lib.hid k1
  have BB := Lib.hid b1
  have Z1 : Hid (w1.heap.size = w.heap.size + 1) := Lib.hid s1
  clear h1 k1 b1 s1
  go_wp2_with (with_reducible refine stopAt 11 ?_)
  refine Stop.go ?_
  obtain ⟨w2, hw2⟩ : ∃ w2, w2 = w1.alloc (.cells #[.slice none 0 0, .bool false] 105) := ⟨_, rfl⟩
  have hI := IsW.newT w1
  rw [← hw2] at hI
  have b2 : Below w1.heap.size w1 w2 := by rw [hw2]; exact (Below.refl _ w1).alloc (Nat.le_refl _) _
  rw [← hw2]
  obtain ⟨B, hB⟩ : ∃ B, B = w1.heap.size := ⟨_, rfl⟩
  have LB : Hid (w.heap.size < B ∧ w.heap.size ≤ B) := Lib.hid ⟨by rw [hB, Z1.out]; omega, by rw [hB, Z1.out]; omega⟩
  rw [← hB] at hI ⊢
  have II := Lib.hid hI
  replace K1 := Lib.hid (K1.out.fresh b2)
  replace BB := Lib.hid (BB.out.tr b2)
  clear hI hw2 b2 hB
  have hc2 := K1.out.cell 0 _ rfl
  go_wp2_with fail
  refine (Count_any w2 B B (some []) II.out (N : Int) (lenT (by simp))).mono ?_
  rintro e w3 ⟨rfl, hi, mw⟩
  clear hc2
  have b3 := mw.below II.out
  replace K1 := Lib.hid (K1.out.below b3 LB.out.1)
  replace BB := Lib.hid (BB.out.trans (b3.mono LB.out.2))
  rw [countB_ok N (by have := HS.out.1; omega)] at hi
  replace II : Hid (IsW w3 B B (some (le N 2))) := Lib.hid hi
  clear hi mw b3
  have hc2 := K1.out.cell 0 _ rfl
  go_wp2
  clear hc2
  go_loopw [5, 18] (fun v5 v18 wr => Below w.heap.size w wr ∧ CB wr 37 w.heap.size [.slice a0 N c0, .slice a2 K c2, .int .u64 (mm : Int)] ∧ ∃ k : Nat, k ≤ N ∧ v18 = .int .i64 (k : Int) ∧ IsW wr B B (some (le N 2 ++ (x.ins.take k).flatMap inpB)))
    (fun _ v _ => N - (RowKit.intOf v).toNat)
  case atStart => exact ⟨BB.out, K1.out, 0, Nat.zero_le _, rfl, by simpa using II.out⟩
  case round =>
    obtain ⟨hb, hk1, k, hk, rfl, hi⟩ := hrel
    replace BB := Lib.hid hb
    replace K1 := Lib.hid hk1
    replace II := Lib.hid hi
    clear hb hk1 hi
    by_cases hlt : k < N
    · obtain ⟨xi, hx⟩ : ∃ z, x.ins[k]? = some z := ⟨_, List.getElem?_eq_getElem (by rw [← HL.out.1]; exact hlt)⟩
      obtain ⟨ux, hux⟩ : ∃ z, us[k]? = some z := ⟨_, List.getElem?_eq_getElem (by rw [HL.out.2.2]; exact hlt)⟩
      obtain ⟨ad, c, he⟩ := rd_some HI.out.1 (by omega)
      simp only [Value.slice.injEq, true_and] at he
      obtain ⟨rfl, rfl⟩ := he
      have hz : (x.ins.zip us)[k]? = some (xi, ux) := by rw [List.getElem?_zip_eq_some]; exact ⟨hx, hux⟩
      have hwi := (HE.out k xi ux hx hux).1
      have hon : ux.oneCell' = true := by obtain ⟨_, _, e⟩ := hwi.slice; rw [e]; rfl
      have hok := HOK.out.1 xi (List.mem_of_getElem? hx)
      obtain ⟨nn, hnn⟩ := Int.eq_ofNat_of_zero_le (HW.out.1 xi (List.mem_of_getElem? hx)).1
      have hnl : nn < 4294967296 := by have := (HW.out.1 xi (List.mem_of_getElem? hx)).2; omega
      have HX := Lib.hid (And.intro hx (And.intro hok (And.intro hon (And.intro hnn (And.intro hnl (HS.out.2.2 xi (List.mem_of_getElem? hx)))))))
      have HC := Lib.hid ((HI.out.1.fresh BB.out).at (fun z hz => inC_length (HOK.out.1 _ (List.of_mem_zip hz).1)) hz)
      have HWI := Lib.hid hwi
      have ik : (k : Int) < (N : Int) := by omega
      have HK := Lib.hid hlt
      clear hx hux hz hwi hon hok hnn hnl hlt hk
      go_wp2_with (with_reducible refine stopAt 21 ?_)
      refine Stop.go ?_
      refine wpList_load_agg rfl 44 (.tmp 20) rfl (ad.add (k * 34)) rfl (inC (xi, ux)) _ HC.out Try.underlying44 rfl (by rw [inC_length HX.out.2.1]; exact infoIn) ?_
      go_wp2_with (with_reducible refine stopStore 44 ?_)
      refine Stop.go ?_
      refine wpList_store_var rfl 44 (.tmp 5) (.tmp 21) rfl wr.heap.size _ rfl _ (inC (xi, ux)) rfl (heap_alloc_new wr _) (by rw [inC_length HX.out.2.1]; rfl) (inC_one xi ux HX.out.2.2.1) (by rw [inC_length HX.out.2.1]; exact infoIn) ?_
      intro w5 k5 o5
      have b5 : Below wr.heap.size wr w5 := Below.only ((Below.refl _ wr).alloc (Nat.le_refl _) _) o5 (Nat.le_refl _)
      have nf : NF w5 B wr.heap.size := NF.new II.out b5 (by rw [o5.size]; exact Nat.lt_of_lt_of_eq (Nat.lt_succ_self _) (Array.size_push _).symm)
      obtain ⟨G5, hG5⟩ : ∃ g, g = wr.heap.size := ⟨_, rfl⟩
      rw [← hG5] at k5 nf ⊢
      replace BB := Lib.hid (BB.out.tr b5)
      replace K1 := Lib.hid (K1.out.fresh b5)
      replace II := Lib.hid (II.out.fresh b5)
      have NFF := Lib.hid nf
      have K5 : Hid (CB w5 44 G5 (inC (xi, ux))) := Lib.hid k5
      clear k5 o5 b5 nf hG5 HC
      go_wp2_with fail
      have hS : Hid (CB w5.drew 44 G5 (inC (xi, ux))) := Lib.hid (K5.out.drew)
      obtain ⟨w6, hw6⟩ : ∃ w6, w6 = w5.drew := ⟨_, rfl⟩
      have II6 : Hid (IsW w6 B B (some (le N 2 ++ (x.ins.take k).flatMap inpB))) := Lib.hid (by rw [hw6]; exact II.out.fresh (Below.refl _ _).drew)
      have BB6 : Hid (Below w.heap.size w w6) := Lib.hid (by rw [hw6]; exact BB.out.drew)
      have K16 : Hid (CB w6 37 w.heap.size [.slice (some ad) N c0, .slice a2 K c2, .int .u64 (mm : Int)]) := Lib.hid (by rw [hw6]; exact K1.out.drew)
      have NF6 : Hid (NF w6 B G5) := Lib.hid (by rw [hw6]; exact NFF.out.mw (MW.fresh II.out.lt (Below.refl _ _).drew))
      refine pl_start 13 rfl (fun w' => CB w' 44 G5 (inC (xi, ux))) (by kernel_rfl) ?_
      rw [← hw6] at hS ⊢
      clear hw6 II BB K1 NFF K5
      refine pl_take (i := 0) 22 rfl rfl rfl (by kernel_rfl) (by kernel_rfl) (by kernel_rfl) (by simp [Act.put]) hS.out ?_
      apply Exists.intro
      refine And.intro (fun w' hS' => ?_) ?_
      · go_wp2
        first
          | exact ⟨trivial, rfl⟩
          | exact rfl
      refine pl_take (i := 1) 23 rfl rfl rfl (by kernel_rfl) (by kernel_rfl) (by kernel_rfl) (by simp [Act.put]) hS.out ?_
      apply Exists.intro
      refine And.intro (fun w' hS' => ?_) ?_
      · go_wp2
        first
          | exact ⟨trivial, rfl⟩
          | exact rfl
      refine pl_take (i := 2) 24 rfl rfl rfl (by kernel_rfl) (by kernel_rfl) (by kernel_rfl) (by simp [Act.put]) hS.out ?_
      apply Exists.intro
      refine And.intro (fun w' hS' => ?_) ?_
      · go_wp2
        first
          | exact ⟨trivial, rfl⟩
          | exact rfl
      refine pl_take (i := 3) 25 rfl rfl rfl (by kernel_rfl) (by kernel_rfl) (by kernel_rfl) (by simp [Act.put]) hS.out ?_
      apply Exists.intro
      refine And.intro (fun w' hS' => ?_) ?_
      · refine wpList_load_agg rfl 24 (.tmp 24) rfl (⟨G5, 0, none⟩) rfl (bvs xi.id) _ ((At.load (At.pre (cs := bvs xi.id) (At.block hS')))) Try.underlying24 rfl (by rw [bvs_length, HX.out.2.1]; exact infoHash) ?_
        clear hS'
        go_wp2
        exact ⟨trivial, rfl⟩
      refine pl_take (i := 5) 27 rfl rfl rfl (by kernel_rfl) (by kernel_rfl) (by kernel_rfl) (by simp [Act.put]) hS.out ?_
      apply Exists.intro
      refine And.intro (fun w' hS' => ?_) ?_
      · go_wp2
        first
          | exact ⟨trivial, rfl⟩
          | exact rfl
      refine pl_take (i := 6) 28 rfl rfl rfl (by kernel_rfl) (by kernel_rfl) (by kernel_rfl) (by simp [Act.put]) hS.out ?_
      apply Exists.intro
      refine And.intro (fun w' hS' => ?_) ?_
      · go_wp2
        first
          | exact ⟨trivial, rfl⟩
          | exact rfl
      refine pl_take (i := 7) 29 rfl rfl rfl (by kernel_rfl) (by kernel_rfl) (by kernel_rfl) (by simp [Act.put]) hS.out ?_
      apply Exists.intro
      refine And.intro (fun w' hS' => ?_) ?_
      · have hc : w'.cell? ⟨G5, 32, none⟩ = some (.int .u32 (nn : Int)) := hS'.cell 32 _ (by
          rw [show (nn : Int) = xi.n from HX.out.2.2.2.1.symm]
          unfold inC
          rw [List.getElem?_append_right (by rw [bvs_length, HX.out.2.1]; exact Nat.le_refl _), bvs_length, HX.out.2.1]
          rfl)
        clear hS'
        go_wp2
        first
          | exact ⟨trivial, rfl⟩
          | exact rfl
      refine pl_take (i := 8) 30 rfl rfl rfl (by kernel_rfl) (by kernel_rfl) (by kernel_rfl) (by simp [Act.put]) hS.out ?_
      apply Exists.intro
      refine And.intro (fun w' hS' => ?_) ?_
      · go_wp2
        first
          | exact ⟨trivial, rfl⟩
          | exact rfl
      refine pl_take (i := 10) 32 rfl rfl rfl (by kernel_rfl) (by kernel_rfl) (by kernel_rfl) (by simp [Act.put]) hS.out ?_
      apply Exists.intro
      refine And.intro (fun w' hS' => ?_) ?_
      · go_wp2
        first
          | exact ⟨trivial, rfl⟩
          | exact rfl
      refine pl_take (i := 11) 33 rfl rfl rfl (by kernel_rfl) (by kernel_rfl) (by kernel_rfl) (by simp [Act.put]) hS.out ?_
      apply Exists.intro
      refine And.intro (fun w' hS' => ?_) ?_
      · have hc := hS'.cell 33 _ (inC_33 HX.out.2.1)
        clear hS'
        go_wp2
        first
          | exact ⟨trivial, rfl⟩
          | exact rfl
      rw [show IntKind.u64.wrap (nn : Int) = (nn : Int) from by
        have := HX.out.2.2.2.2.1
        simp only [IntKind.wrap, IntKind.signed, IntKind.bits, Bool.false_and, Bool.false_eq_true, if_false]
        omega]
      have hl0 : Hid ((le N 2 ++ (x.ins.take k).flatMap inpB).length ≤ 20000) := Lib.hid (by rw [List.length_append, le_len]; have := HFI.out k; omega)
      refine pl_heavy (i := 4) rfl (by kernel_rfl) ?_
      go_wp2_with fail
      refine (Hash_any w6 B B _ II6.out xi.id HX.out.2.1 (lenT (by have := hl0.out; omega))).mono ?_
      rintro e w7 ⟨rfl, hi, mw⟩
      have II7 : Hid (IsW w7 B B (some ((le N 2 ++ (x.ins.take k).flatMap inpB) ++ xi.id))) := Lib.hid hi
      have BB7 := Lib.hid (BB6.out.trans ((mw.below II6.out).mono LB.out.2))
      have K17 := Lib.hid (K16.out.below (mw.below II6.out) LB.out.1)
      replace hS := Lib.hid (hS.out.mw NF6.out mw)
      have NF7 := Lib.hid (NF6.out.mw mw)
      clear hi mw
      go_wp2
      refine And.intro hS.out ?_
      refine pl_heavy (i := 9) rfl (by kernel_rfl) ?_
      have C4 := Lib.hid (Number_any w7 B B _ II7.out nn (by have := HX.out.2.2.2.2.1; omega) 4 (fun xs e => by cases e; rw [List.length_append]; have := hl0.out; have h := HX.out.2.1; unfold InOk at h; omega))
      go_wp2_with fail
      refine (C4.out).mono ?_
      rintro e w8 ⟨rfl, hi, mw⟩
      rw [numB_ok nn 4 rfl (by have := HX.out.2.2.2.2.1; simpa using this)] at hi
      have II8 : Hid (IsW w8 B B (some (((le N 2 ++ (x.ins.take k).flatMap inpB) ++ xi.id) ++ le nn 4))) := Lib.hid hi
      have BB8 := Lib.hid (BB7.out.trans ((mw.below II7.out).mono LB.out.2))
      have K18 := Lib.hid (K17.out.below (mw.below II7.out) LB.out.1)
      replace hS := Lib.hid (hS.out.mw NF7.out mw)
      have NF8 := Lib.hid (NF7.out.mw mw)
      clear hi mw C4
      go_wp2
      refine And.intro hS.out ?_
      refine pl_heavy (i := 12) rfl (by kernel_rfl) ?_
      go_wp2_with fail
      refine (Blob_any w8 B B _ xi.wit II8.out ux (HWI.out.fresh BB8.out) (Apart.old HWI.out LB.out.2 II8.out) (lenT (by rw [List.length_append, List.length_append, le_len]; have := hl0.out; have h := HX.out.2.1; unfold InOk at h; have := HX.out.2.2.2.2.2; omega))).mono ?_
      rintro e w9 ⟨rfl, hi, mw⟩
      rw [blobB_ok _ (by have := HX.out.2.2.2.2.2; omega)] at hi
      have Q1 := Lib.hid (BB8.out.trans ((mw.below II8.out).mono LB.out.2))
      have Q2 := Lib.hid (K18.out.below (mw.below II8.out) LB.out.1)
      have Q3 : Hid (IsW w9 B B (some (le N 2 ++ (x.ins.take (k + 1)).flatMap inpB))) := Lib.hid (by
        have e : (((le N 2 ++ (x.ins.take k).flatMap inpB) ++ xi.id) ++ le nn 4) ++ (le xi.wit.length 4 ++ xi.wit) = le N 2 ++ (x.ins.take (k + 1)).flatMap inpB := by
          rw [flatMap_next inpB HX.out.1]
          unfold inpB
          rw [show xi.n.toNat = nn by have := HX.out.2.2.2.1; omega]
          simp
        rw [← e]
        exact hi)
      replace hS := Lib.hid (hS.out.mw NF8.out mw)
      clear hi mw
      go_wp2
      refine And.intro hS.out ?_
      refine pl_done (by kernel_rfl) ?_
      go_wp2
      go_roundw
      case rel => exact ⟨Q1.out, Q2.out, k + 1, HK.out, by go_num, Q3.out⟩
      case measure => simp only [RowKit.intOf]; have := HK.out; omega
    · have ik : ¬ ((k : Int) < (N : Int)) := by omega
      have hkN : k = N := by omega
      replace II : Hid (IsW wr B B (some (le N 2 ++ x.ins.flatMap inpB))) := Lib.hid (by
        have h := II.out
        rwa [List.take_of_length_le (by rw [← HL.out.1]; omega)] at h)
      have hl0 : Hid ((le N 2 ++ x.ins.flatMap inpB).length ≤ 20000) := Lib.hid (by
        have h := HFI.out N
        rw [List.take_of_length_le (by rw [← HL.out.1]; omega)] at h
        rw [List.length_append, le_len]
        omega)
      clear hlt hk hkN
      have hc3 := K1.out.cell 1 _ rfl
      go_wp2_with fail
      refine (Count_any wr B B _ II.out (K : Int) (lenT (by have := hl0.out; omega))).mono ?_
      rintro e w3' ⟨rfl, hi, mw⟩
      clear hc3
      rw [countB_ok K (by have := HS.out.2.1; omega)] at hi
      obtain ⟨L0, hL0⟩ : ∃ L, L = (le N 2 ++ x.ins.flatMap inpB) ++ le K 2 := ⟨_, rfl⟩
      have hL0l : Hid (L0.length ≤ 20010 ∧ L0 = (le N 2 ++ x.ins.flatMap inpB) ++ le K 2) := Lib.hid ⟨by rw [hL0, List.length_append, le_len]; have := hl0.out; omega, hL0⟩
      have II3 : Hid (IsW w3' B B (some L0)) := Lib.hid (by rw [hL0]; exact hi)
      have BB3 := Lib.hid (BB.out.trans ((mw.below II.out).mono LB.out.2))
      have K13 := Lib.hid (K1.out.below (mw.below II.out) LB.out.1)
      clear hi mw hL0
      have hc3 := K13.out.cell 1 _ rfl
      go_wp2
      clear hc3 II BB K1
      go_loopw [7, 44] (fun v7 v44 wr => Below w.heap.size w wr ∧ CB wr 37 w.heap.size [.slice a0 N c0, .slice a2 K c2, .int .u64 (mm : Int)] ∧ ∃ k : Nat, k ≤ K ∧ v44 = .int .i64 (k : Int) ∧ IsW wr B B (some (L0 ++ (x.outs.take k).flatMap outpB)))
        (fun _ v _ => K - (RowKit.intOf v).toNat)
      case atStart => exact ⟨BB3.out, K13.out, 0, Nat.zero_le _, rfl, by simpa using II3.out⟩
      case round =>
        obtain ⟨hb, hk1, k, hk, rfl, hi⟩ := hrel
        have BB := Lib.hid hb
        have K1 := Lib.hid hk1
        have II := Lib.hid hi
        clear hb hk1 hi BB3 K13 II3 hl0
        by_cases hlt : k < K
        · obtain ⟨o, hx⟩ : ∃ z, x.outs[k]? = some z := ⟨_, List.getElem?_eq_getElem (by rw [← HL.out.2.1]; exact hlt)⟩
          obtain ⟨ad, c, he⟩ := rd_some HI.out.2 (by omega)
          simp only [Value.slice.injEq, true_and] at he
          obtain ⟨rfl, rfl⟩ := he
          have hok := HOK.out.2 o (List.mem_of_getElem? hx)
          have HC2 := Lib.hid ((HI.out.2.fresh BB.out).at (fun z hz => outC_length (HOK.out.2 z hz)) hx)
          obtain ⟨am, ham⟩ := Int.eq_ofNat_of_zero_le (HW.out.2.1 o (List.mem_of_getElem? hx)).1
          have hal : am < 18446744073709551616 := by have := (HW.out.2.1 o (List.mem_of_getElem? hx)).2; omega
          have HX := Lib.hid (And.intro hx (And.intro hok (And.intro ham hal)))
          have ik : (k : Int) < (K : Int) := by omega
          have HK := Lib.hid hlt
          clear hx hok ham hal hlt hk
          go_wp2_with (with_reducible refine stopAt 47 ?_)
          refine Stop.go ?_
          refine wpList_load_agg rfl 46 (.tmp 46) rfl (ad.add (k * 33)) rfl (outC o) _ HC2.out Try.underlying46 rfl (by rw [outC_length HX.out.2.1]; exact infoOutP) ?_
          go_wp2_with (with_reducible refine stopStore 46 ?_)
          refine Stop.go ?_
          refine wpList_store_var rfl 46 (.tmp 7) (.tmp 47) rfl wr.heap.size _ rfl _ (outC o) rfl (heap_alloc_new wr _) (by rw [outC_length HX.out.2.1]; rfl) (outC_one o) (by rw [outC_length HX.out.2.1]; exact infoOutP) ?_
          intro w5 k5 o5
          have b5 : Below wr.heap.size wr w5 := Below.only ((Below.refl _ wr).alloc (Nat.le_refl _) _) o5 (Nat.le_refl _)
          have nf : NF w5 B wr.heap.size := NF.new II.out b5 (by rw [o5.size]; exact Nat.lt_of_lt_of_eq (Nat.lt_succ_self _) (Array.size_push _).symm)
          obtain ⟨G5, hG5⟩ : ∃ g, g = wr.heap.size := ⟨_, rfl⟩
          rw [← hG5] at k5 nf ⊢
          replace BB := Lib.hid (BB.out.tr b5)
          replace K1 := Lib.hid (K1.out.fresh b5)
          replace II := Lib.hid (II.out.fresh b5)
          have NFF := Lib.hid nf
          have K5 : Hid (CB w5 46 G5 (outC o)) := Lib.hid k5
          clear k5 o5 b5 nf hG5 HC2
          go_wp2_with fail
          have hS : Hid (CB w5.drew 46 G5 (outC o)) := Lib.hid (K5.out.drew)
          obtain ⟨w6, hw6⟩ : ∃ w6, w6 = w5.drew := ⟨_, rfl⟩
          have II6 : Hid (IsW w6 B B (some (L0 ++ (x.outs.take k).flatMap outpB))) := Lib.hid (by rw [hw6]; exact II.out.fresh (Below.refl _ _).drew)
          have BB6 : Hid (Below w.heap.size w w6) := Lib.hid (by rw [hw6]; exact BB.out.drew)
          have K16 : Hid (CB w6 37 w.heap.size [.slice a0 N c0, .slice (some ad) K c2, .int .u64 (mm : Int)]) := Lib.hid (by rw [hw6]; exact K1.out.drew)
          have NF6 : Hid (NF w6 B G5) := Lib.hid (by rw [hw6]; exact NFF.out.mw (MW.fresh II.out.lt (Below.refl _ _).drew))
          have hl1 : Hid ((L0 ++ (x.outs.take k).flatMap outpB).length ≤ 30000) := Lib.hid (by rw [List.length_append]; have := HFO.out k; have := hL0l.out.1; omega)
          refine pl_start 7 rfl (fun w' => CB w' 46 G5 (outC o)) (by kernel_rfl) ?_
          rw [← hw6] at hS ⊢
          clear hw6 II BB K1 NFF K5
          refine pl_take (i := 0) 48 rfl rfl rfl (by kernel_rfl) (by kernel_rfl) (by kernel_rfl) (by simp [Act.put]) hS.out ?_
          apply Exists.intro
          refine And.intro (fun w' hS' => ?_) ?_
          · go_wp2
            first
              | exact ⟨trivial, rfl⟩
              | exact rfl
          refine pl_take (i := 1) 49 rfl rfl rfl (by kernel_rfl) (by kernel_rfl) (by kernel_rfl) (by simp [Act.put]) hS.out ?_
          apply Exists.intro
          refine And.intro (fun w' hS' => ?_) ?_
          · go_wp2
            first
              | exact ⟨trivial, rfl⟩
              | exact rfl
          refine pl_take (i := 2) 50 rfl rfl rfl (by kernel_rfl) (by kernel_rfl) (by kernel_rfl) (by simp [Act.put]) hS.out ?_
          apply Exists.intro
          refine And.intro (fun w' hS' => ?_) ?_
          · have hc : w'.cell? ⟨G5, 0, none⟩ = some (.int .u64 (am : Int)) := hS'.cell 0 _ (by
              rw [show (am : Int) = o.amt from HX.out.2.2.1.symm]
              rfl)
            clear hS'
            go_wp2
            first
              | exact ⟨trivial, rfl⟩
              | exact rfl
          refine pl_take (i := 4) 52 rfl rfl rfl (by kernel_rfl) (by kernel_rfl) (by kernel_rfl) (by simp [Act.put]) hS.out ?_
          apply Exists.intro
          refine And.intro (fun w' hS' => ?_) ?_
          · go_wp2
            first
              | exact ⟨trivial, rfl⟩
              | exact rfl
          refine pl_take (i := 5) 53 rfl rfl rfl (by kernel_rfl) (by kernel_rfl) (by kernel_rfl) (by simp [Act.put]) hS.out ?_
          apply Exists.intro
          refine And.intro (fun w' hS' => ?_) ?_
          · refine wpList_load_agg rfl 24 (.tmp 52) rfl (⟨G5, 1, none⟩) rfl (bvs o.lock) _ ((At.load (At.post' (cs := [Value.int .u64 o.amt]) (n := 1) (o' := 1) (At.block hS') rfl rfl))) Try.underlying24 rfl (by rw [bvs_length, HX.out.2.1]; exact infoHash) ?_
            clear hS'
            go_wp2
            exact ⟨trivial, rfl⟩
          refine pl_heavy (i := 3) rfl (by kernel_rfl) ?_
          have C4 := Lib.hid (Number_any w6 B B _ II6.out am HX.out.2.2.2 8 (fun xs e => by cases e; have := hl1.out; omega))
          go_wp2_with fail
          refine (C4.out).mono ?_
          rintro e w7 ⟨rfl, hi, mw⟩
          rw [numB_ok am 8 rfl (by have := HX.out.2.2.2; simpa using this)] at hi
          have II7 : Hid (IsW w7 B B (some ((L0 ++ (x.outs.take k).flatMap outpB) ++ le am 8))) := Lib.hid hi
          have BB7 := Lib.hid (BB6.out.trans ((mw.below II6.out).mono LB.out.2))
          have K17 := Lib.hid (K16.out.below (mw.below II6.out) LB.out.1)
          replace hS := Lib.hid (hS.out.mw NF6.out mw)
          have NF7 := Lib.hid (NF6.out.mw mw)
          clear hi mw C4
          go_wp2
          refine And.intro hS.out ?_
          refine pl_heavy (i := 6) rfl (by kernel_rfl) ?_
          go_wp2_with fail
          refine (Hash_any w7 B B _ II7.out o.lock HX.out.2.1 (lenT (by rw [List.length_append, le_len]; have := hl1.out; omega))).mono ?_
          rintro e w8 ⟨rfl, hi, mw⟩
          have Q1 := Lib.hid (BB7.out.trans ((mw.below II7.out).mono LB.out.2))
          have Q2 := Lib.hid (K17.out.below (mw.below II7.out) LB.out.1)
          have Q3 : Hid (IsW w8 B B (some (L0 ++ (x.outs.take (k + 1)).flatMap outpB))) := Lib.hid (by
            have e : ((L0 ++ (x.outs.take k).flatMap outpB) ++ le am 8) ++ o.lock = L0 ++ (x.outs.take (k + 1)).flatMap outpB := by
              rw [flatMap_next outpB HX.out.1]
              unfold outpB
              rw [show o.amt.toNat = am by have := HX.out.2.2.1; omega]
              simp
            rw [← e]
            exact hi)
          replace hS := Lib.hid (hS.out.mw NF7.out mw)
          clear hi mw
          go_wp2
          refine And.intro hS.out ?_
          refine pl_done (by kernel_rfl) ?_
          go_wp2
          go_roundw
          case rel => exact ⟨Q1.out, Q2.out, k + 1, HK.out, by go_num, Q3.out⟩
          case measure => simp only [RowKit.intOf]; have := HK.out; omega
        · have ik : ¬ ((k : Int) < (K : Int)) := by omega
          have hkK : k = K := by omega
          replace II : Hid (IsW wr B B (some (L0 ++ x.outs.flatMap outpB))) := Lib.hid (by
            have h := II.out
            rwa [List.take_of_length_le (by rw [← HL.out.2.1]; omega)] at h)
          have hl1 : Hid ((L0 ++ x.outs.flatMap outpB).length ≤ 30000) := Lib.hid (by
            have h := HFO.out K
            rw [List.take_of_length_le (by rw [← HL.out.2.1]; omega)] at h
            rw [List.length_append]
            have := hL0l.out.1
            omega)
          clear hlt hk hkK
          have C4 := Lib.hid (Number_any wr B B _ II.out mm HM.out.2 8 (fun xs e => by cases e; have := hl1.out; omega))
          have hcn := K1.out.cell 2 _ rfl
          go_wp2_with fail
          refine (C4.out).mono ?_
          rintro e w7 ⟨rfl, hi, mw⟩
          clear hcn
          rw [numB_ok mm 8 rfl (by have := HM.out.2; simpa using this)] at hi
          have e9 : (L0 ++ x.outs.flatMap outpB) ++ le mm 8 = packB x := by
            rw [hL0l.out.2]
            unfold packB
            rw [HM.out.1, ← HL.out.1, ← HL.out.2.1]
          have II7 : Hid (IsW w7 B B (some (packB x))) := Lib.hid (by rw [← e9]; exact hi)
          have hl2 : Hid ((packB x).length ≤ 1099511627776) := Lib.hid (by rw [← e9, List.length_append, le_len]; have := hl1.out; omega)
          have BB7 := Lib.hid (BB.out.trans ((mw.below II.out).mono LB.out.2))
          clear hi mw C4 e9
          go_wp2_with fail
          refine (End_good w7 B B (packB x) II7.out hl2.out).mono ?_
          rintro e w8 ⟨v', rfl, ov, b8⟩
          have OV := Lib.hid (own_lower' ov BB7.out.size)
          have B8 := Lib.hid (BB7.out.tr b8)
          clear ov b8
          go_wp2
          go_ret
          exact ⟨v', rfl, OV.out, B8.out⟩

end Go.Proofs.Ytkbahhnjoidhcaa
