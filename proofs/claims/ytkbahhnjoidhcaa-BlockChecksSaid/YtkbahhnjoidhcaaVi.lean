/- The reference's bytes of a transaction: the walk. -/
import Derived.Test.YtkbahhnjoidhcaaVf
import Derived.Test.YtkbahhnjoidhcaaVg
import Derived.Test.YtkbahhnjoidhcaaRa
namespace Go.Proofs.Ytkbahhnjoidhcaa
set_option linter.unusedVariables false
set_option linter.unusedSimpArgs false
open Go.RowKit

theorem cb_ne {w : World} {base g : Nat} {e e' : TypeId} {s n : Nat} {v : Value} {xs L : List Value} (h : w.ownsRow base e s v n xs) (hc : CB w e' g L) (he : e ≠ e') : v.ownBlock ≠ some g := by
  rcases h.2 with ⟨rfl, _⟩ | ⟨g1, cap, cur, rfl, hb, hh, r⟩
  · intro h; cases h
  · intro h2
    have e1 : g1 = g := by simpa [Value.ownBlock] using h2
    subst e1
    unfold CB at hc
    rw [hh] at hc
    simp only [Option.some.injEq, Obj.cells.injEq] at hc
    exact he hc.2.1

theorem wrap_nat (n : Nat) (h : n < 18446744073709551616) : IntKind.u64.wrap (n : Int) = (n : Int) := by
  simp only [IntKind.wrap, IntKind.signed, IntKind.bits, Bool.false_and, Bool.false_eq_true, if_false]
  omega

theorem in_id_rd {w : World} {g : Nat} {x : InD} {u : Value} (h : CB w 44 g (inC (x, u))) (hx : InOk x) : Rd w 1 (.slice (some ⟨g, 0, none⟩) 32 32) 32 (bvs x.id) := by
  unfold InOk at hx
  refine ⟨by rw [bvs_length, hx], .inr ⟨_, _, rfl, Nat.le_refl _, by decide, fun j u hj => ?_⟩⟩
  rw [add_at, Nat.zero_add]
  refine h.cell j _ ?_
  unfold inC
  rw [List.getElem?_append_left (List.getElem?_eq_some_iff.1 hj).1]
  exact hj

theorem out_lock_rd {w : World} {A : Addr} {o : OutD} (h : ∀ j c, (outC o)[j]? = some c → w.cell? (A.add j) = some c) (ho : OutOk o) : Rd w 1 (.slice (some ⟨A.block, A.off + 1, none⟩) 32 32) 32 (bvs o.lock) := by
  unfold OutOk at ho
  refine ⟨by rw [bvs_length, ho], .inr ⟨_, _, rfl, Nat.le_refl _, by decide, fun j u hj => ?_⟩⟩
  have h1 := h (j + 1) u (by unfold outC; rw [List.getElem?_cons_succ]; exact hj)
  rw [Addr.add_succ'] at h1
  rw [add_at, show A.off + 1 + j = A.off + (j + 1) by omega]
  exact h1

theorem rnum2 (w : World) (m : Nat) (hm : m < 18446744073709551616) :
    Calls Try.prog 55 #[.int .u64 (m : Int), .int .i64 2] w fun e w' => ∃ (a : Option Addr) (c : Nat), e = .returned (.slice a 2 c) ∧ Rd w' 1 (.slice a 2 c) 2 (bvs (le m 2)) ∧ w'.ownsRow w.heap.size 5 1 (.slice a 2 c) 2 (bvs (le m 2)) ∧ Below w.heap.size w w' := by
  refine (rnum_any w m hm 2 rfl).mono ?_
  rintro e w' ⟨v, rfl, ho, hb⟩
  obtain ⟨a, c, rfl⟩ := (Rd.of_own ho).slice
  exact ⟨a, c, rfl, Rd.of_own ho, ho, hb⟩

theorem rnum4 (w : World) (m : Nat) (hm : m < 18446744073709551616) :
    Calls Try.prog 55 #[.int .u64 (m : Int), .int .i64 4] w fun e w' => ∃ (a : Option Addr) (c : Nat), e = .returned (.slice a 4 c) ∧ Rd w' 1 (.slice a 4 c) 4 (bvs (le m 4)) ∧ w'.ownsRow w.heap.size 5 1 (.slice a 4 c) 4 (bvs (le m 4)) ∧ Below w.heap.size w w' := by
  refine (rnum_any w m hm 4 rfl).mono ?_
  rintro e w' ⟨v, rfl, ho, hb⟩
  obtain ⟨a, c, rfl⟩ := (Rd.of_own ho).slice
  exact ⟨a, c, rfl, Rd.of_own ho, ho, hb⟩

theorem rnum8 (w : World) (m : Nat) (hm : m < 18446744073709551616) :
    Calls Try.prog 55 #[.int .u64 (m : Int), .int .i64 8] w fun e w' => ∃ (a : Option Addr) (c : Nat), e = .returned (.slice a 8 c) ∧ Rd w' 1 (.slice a 8 c) 8 (bvs (le m 8)) ∧ w'.ownsRow w.heap.size 5 1 (.slice a 8 c) 8 (bvs (le m 8)) ∧ Below w.heap.size w w' := by
  refine (rnum_any w m hm 8 rfl).mono ?_
  rintro e w' ⟨v, rfl, ho, hb⟩
  obtain ⟨a, c, rfl⟩ := (Rd.of_own ho).slice
  exact ⟨a, c, rfl, Rd.of_own ho, ho, hb⟩

set_option maxRecDepth 100000 in
set_option maxHeartbeats 4000000 in
theorem rpack_any (F : Nat → Prop) (w : World) (x : TxD) (u : Value × Value) (hi : Ins F w u.1 x.ins) (ho : Outs F w u.2 x.outs) (hwf : TxWf x) (hs : x.ins.length ≤ 64 ∧ x.outs.length ≤ 64 ∧ Short x.ins) :
    Calls Try.prog 23 #[.agg (txC (x, u)).toArray] w fun e w' => ∃ v' : Value, e = .returned v' ∧ w'.ownsRow w.heap.size 5 1 v' (packB x).length (bvs (packB x)) ∧ Below w.heap.size w w' := by
  obtain ⟨i0, hi0, hz0, hz1, hz2⟩ := info_parts infoU8
  have HU := Lib.hid (And.intro hi0 (And.intro hz0 (And.intro hz1 hz2)))
  clear hi0 hz0 hz1 hz2
  obtain ⟨u1, u2⟩ := u
  change Calls _ _ #[.agg #[u1, u2, .int .u64 x.nonce]] _ _
  obtain ⟨a0, c0, he⟩ := hi.slice
  change u1 = _ at he
  subst he
  obtain ⟨a2, c2, he⟩ := ho.slice
  change u2 = _ at he
  subst he
  obtain ⟨N, hN⟩ : ∃ N, N = x.ins.length := ⟨_, rfl⟩
  obtain ⟨K, hK⟩ : ∃ K, K = x.outs.length := ⟨_, rfl⟩
  rw [← hN] at hi hs
  rw [← hK] at ho hs
  rw [← hN, ← hK]
  obtain ⟨us, hlu, hoku, hru, heu⟩ := hi
  obtain ⟨hou, hrou⟩ := ho
  rw [← hN] at hlu hru
  rw [← hK] at hrou
  change RdF F w 34 (.slice a0 N c0) N _ at hru
  change RdF F w 33 (.slice a2 K c2) K _ at hrou
  have bN' : (N : Int) ≤ 9223372036854775807 := rd_small' hru.1
  have bK' : (K : Int) ≤ 9223372036854775807 := rd_small' hrou.1
  have HI := Lib.hid (And.intro hru.1 hrou.1)
  have HE := Lib.hid heu
  have HL := Lib.hid (And.intro hN (And.intro hK hlu))
  have HOK := Lib.hid (And.intro hoku hou)
  have HW := Lib.hid hwf
  have HS := Lib.hid hs
  have HFI : Hid (∀ k, ((x.ins.take k).flatMap inpB).length ≤ 64 * 296) := Lib.hid (fun k => by
    have h1 := flatMap_len inpB 296 (x.ins.take k) (fun i hi => by rw [inpB_len (hoku i (List.mem_of_mem_take hi))]; have := hs.2.2 i (List.mem_of_mem_take hi); omega)
    have h2 : (x.ins.take k).length ≤ 64 := by rw [List.length_take]; have := hs.1; omega
    have h3 : (x.ins.take k).length * 296 ≤ 64 * 296 := Nat.mul_le_mul_right _ h2
    omega)
  have HFO : Hid (∀ k, ((x.outs.take k).flatMap outpB).length ≤ 64 * 40) := Lib.hid (fun k => by
    have h1 := flatMap_len outpB 40 (x.outs.take k) (fun o ho => by rw [outpB_len (hou o (List.mem_of_mem_take ho))]; exact Nat.le_refl _)
    have h2 : (x.outs.take k).length ≤ 64 := by rw [List.length_take]; have := hs.2.1; omega
    have h3 : (x.outs.take k).length * 40 ≤ 64 * 40 := Nat.mul_le_mul_right _ h2
    omega)
  clear hlu hoku hru heu hou hrou hN hK hwf hs
  obtain ⟨mm, hmm⟩ := Int.eq_ofNat_of_zero_le HW.out.2.2.1
  have HM : Hid (x.nonce.toNat = mm ∧ mm < 18446744073709551616) := Lib.hid ⟨by omega, by have := HW.out.2.2.2; omega⟩
  rw [show x.nonce = (mm : Int) from hmm]
  clear hmm
  go_enter Try.func23, Try.ntmps23
  go_wp2_with (with_reducible refine stopAt 7 ?_)
  refine Stop.go ?_
  obtain ⟨w1, h1, k1, b1, s1⟩ := alloc_cb w 37 [.slice a0 N c0, .slice a2 K c2, .int .u64 (mm : Int)]
  change wpList _ _ _ _ _ (w.alloc (.cells [.slice a0 N c0, .slice a2 K c2, .int .u64 (mm : Int)].toArray 37))
  rw [← h1]
  have K1 : Hid (CB w1 37 w.heap.size [.slice a0 N c0, .slice a2 K c2, .int .u64 (mm : Int)]) := Lib.hid k1
  have BB := Lib.hid b1
  have S1 := Lib.hid s1
  have hc0 := k1.cell 0 _ rfl
  clear h1 k1 b1 s1
  go_wp2_with fail
  refine (rnum_any w1 N (by have := HS.out.1; omega) 2 rfl).mono ?_
  rintro e w2 ⟨v2, rfl, o2, b2⟩
  obtain ⟨a, c, rfl⟩ := (Rd.of_own o2).slice
  have OB : Hid (w2.ownsRow (w.heap.size + 1) 5 1 (.slice a 2 c) 2 (bvs (le N 2))) := Lib.hid (by rw [S1.out] at o2; exact o2)
  replace K1 := Lib.hid (K1.out.fresh b2)
  replace BB := Lib.hid (BB.out.tr b2)
  clear o2 b2 hc0 S1
  go_wp2
  go_loopw [3, 4] (fun v3 v4 wr => Below w.heap.size w wr ∧ CB wr 37 w.heap.size [.slice a0 N c0, .slice a2 K c2, .int .u64 (mm : Int)] ∧ ∃ (k n : Nat) (a : Option Addr) (c : Nat), k ≤ N ∧ v4 = .int .i64 (k : Int) ∧ v3 = .slice a n c ∧ wr.ownsRow (w.heap.size + 1) 5 1 (.slice a n c) n (bvs (le N 2 ++ (x.ins.take k).flatMap inpB)))
    (fun _ v _ => N - (RowKit.intOf v).toNat)
  case atStart => exact ⟨BB.out, K1.out, 0, 2, a, c, Nat.zero_le _, rfl, rfl, by simpa using OB.out⟩
  case round =>
    clear OB
    obtain ⟨hb, hk1, k, n, a, c, hk, rfl, rfl, how⟩ := hrel
    replace BB := Lib.hid hb
    replace K1 := Lib.hid hk1
    have OB := Lib.hid how
    have hn : n = (le N 2 ++ (x.ins.take k).flatMap inpB).length := by
      have h := how.1
      rw [bvs_length] at h
      omega
    have Hn : Hid (n ≤ 20000) := Lib.hid (by rw [hn, List.length_append, le_len]; have := HFI.out k; omega)
    clear hb hk1 how hn
    have hc0 := K1.out.cell 0 _ rfl
    by_cases hlt : k < N
    · obtain ⟨xi, hx⟩ : ∃ z, x.ins[k]? = some z := ⟨_, List.getElem?_eq_getElem (by rw [← HL.out.1]; exact hlt)⟩
      obtain ⟨ux, hux⟩ : ∃ z, us[k]? = some z := ⟨_, List.getElem?_eq_getElem (by rw [HL.out.2.2]; exact hlt)⟩
      obtain ⟨ad, cx, he⟩ := rd_some HI.out.1 (by omega)
      simp only [Value.slice.injEq, true_and] at he
      obtain ⟨rfl, rfl⟩ := he
      have hz : (x.ins.zip us)[k]? = some (xi, ux) := by rw [List.getElem?_zip_eq_some]; exact ⟨hx, hux⟩
      have hwi := (HE.out k xi ux hx hux).1
      have hon : ux.oneCell' = true := by obtain ⟨_, _, e⟩ := hwi.slice; rw [e]; rfl
      have hok := HOK.out.1 xi (List.mem_of_getElem? hx)
      obtain ⟨nn, hnn⟩ := Int.eq_ofNat_of_zero_le (HW.out.1 xi (List.mem_of_getElem? hx)).1
      have hnl : nn < 4294967296 := by have := (HW.out.1 xi (List.mem_of_getElem? hx)).2; omega
      have HX := Lib.hid (And.intro hx (And.intro hok (And.intro hon (And.intro hnn (And.intro hnl (HS.out.2.2 xi (List.mem_of_getElem? hx)))))))
      have HC := Lib.hid ((HI.out.1.fresh BB.out).at (fun z hz => inC_length (HOK.out.1 _ (List.of_mem_zip hz).1)) hz)
      have HWI := Lib.hid hwi
      obtain ⟨q, hq⟩ : ∃ q, q = 4 + xi.wit.length := ⟨_, rfl⟩
      have HQ := Lib.hid hq
      have Hq : Hid (q ≤ 260) := Lib.hid (by rw [hq]; have := HX.out.2.2.2.2.2; omega)
      clear hq
      have ik : (k : Int) < (N : Int) := by omega
      have HK := Lib.hid hlt
      clear hx hux hz hwi hon hok hnn hnl hlt hk
      go_wp2_with (with_reducible refine stopAt 23 ?_)
      refine Stop.go ?_
      clear hc0
      refine wpList_load_agg rfl 44 (.tmp 22) rfl (ad.add (k * 34)) rfl (inC (xi, ux)) _ HC.out Try.underlying44 rfl (by rw [inC_length HX.out.2.1]; exact infoIn) ?_
      go_wp2_with (with_reducible refine stopStore 44 ?_)
      refine Stop.go ?_
      refine wpList_store_var rfl 44 (.tmp 5) (.tmp 23) rfl wr.heap.size _ rfl _ (inC (xi, ux)) rfl (heap_alloc_new wr _) (by rw [inC_length HX.out.2.1]; rfl) (inC_one xi ux HX.out.2.2.1) (by rw [inC_length HX.out.2.1]; exact infoIn) ?_
      intro w5 k5 o5
      have b5 : Below wr.heap.size wr w5 := Below.only ((Below.refl _ wr).alloc (Nat.le_refl _) _) o5 (Nat.le_refl _)
      obtain ⟨G5, hG5⟩ : ∃ g, g = wr.heap.size := ⟨_, rfl⟩
      rw [← hG5] at k5 ⊢
      replace BB := Lib.hid (BB.out.tr b5)
      replace K1 := Lib.hid (K1.out.fresh b5)
      replace OB := Lib.hid (own_fresh OB.out b5)
      have K5 : Hid (CB w5 44 G5 (inC (xi, ux))) := Lib.hid k5
      clear k5 o5 b5 hG5 HC
      go_wp2_with fail
      have hS : Hid (CB w5.drew 44 G5 (inC (xi, ux))) := Lib.hid (K5.out.drew)
      obtain ⟨w6, hw6⟩ : ∃ w6, w6 = w5.drew := ⟨_, rfl⟩
      have OB6 : Hid (w6.ownsRow (w.heap.size + 1) 5 1 (.slice a n c) n (bvs (le N 2 ++ (x.ins.take k).flatMap inpB))) := Lib.hid (by rw [hw6]; exact OB.out.drew)
      have BB6 : Hid (Below w.heap.size w w6) := Lib.hid (by rw [hw6]; exact BB.out.drew)
      have K16 : Hid (CB w6 37 w.heap.size [.slice (some ad) N c0, .slice a2 K c2, .int .u64 (mm : Int)]) := Lib.hid (by rw [hw6]; exact K1.out.drew)
      have L6 : Hid (w.heap.size + 1 ≤ w6.heap.size) := Lib.hid (K16.out.lt)
      refine pl_start 12 rfl (fun w' => CB w' 44 G5 (inC (xi, ux))) (by kernel_rfl) ?_
      rw [← hw6] at hS ⊢
      clear hw6 OB BB K1 K5
      refine pl_take (i := 0) 24 rfl rfl rfl (by kernel_rfl) (by kernel_rfl) (by kernel_rfl) (by simp [Act.put]) hS.out ?_
      apply Exists.intro
      refine And.intro (fun w' hS' => ?_) ?_
      · go_wp2
        first
          | exact ⟨trivial, rfl⟩
          | exact rfl
      refine pl_take (i := 1) 25 rfl rfl rfl (by kernel_rfl) (by kernel_rfl) (by kernel_rfl) (by simp [Act.put]) hS.out ?_
      apply Exists.intro
      refine And.intro (fun w' hS' => ?_) ?_
      · go_wp2
        first
          | exact ⟨trivial, rfl⟩
          | exact rfl
      refine pl_take (i := 2) 26 rfl rfl rfl (by kernel_rfl) (by kernel_rfl) (by kernel_rfl) (by simp [Act.put]) hS.out ?_
      apply Exists.intro
      refine And.intro (fun w' hS' => ?_) ?_
      · go_wp2
        first
          | exact ⟨trivial, rfl⟩
          | exact rfl
      refine pl_take (i := 3) 27 rfl rfl rfl (by kernel_rfl) (by kernel_rfl) (by kernel_rfl) (by simp [Act.put]) hS.out ?_
      apply Exists.intro
      refine And.intro (fun w' hS' => ?_) ?_
      · clear hS'
        go_wp2
        first
          | exact ⟨trivial, rfl⟩
          | exact rfl
      refine pl_take (i := 5) 29 rfl rfl rfl (by kernel_rfl) (by kernel_rfl) (by kernel_rfl) (by simp [Act.put]) hS.out ?_
      apply Exists.intro
      refine And.intro (fun w' hS' => ?_) ?_
      · go_wp2
        first
          | exact ⟨trivial, rfl⟩
          | exact rfl
      refine pl_take (i := 6) 30 rfl rfl rfl (by kernel_rfl) (by kernel_rfl) (by kernel_rfl) (by simp [Act.put]) hS.out ?_
      apply Exists.intro
      refine And.intro (fun w' hS' => ?_) ?_
      · go_wp2
        first
          | exact ⟨trivial, rfl⟩
          | exact rfl
      refine pl_take (i := 7) 31 rfl rfl rfl (by kernel_rfl) (by kernel_rfl) (by kernel_rfl) (by simp [Act.put]) hS.out ?_
      apply Exists.intro
      refine And.intro (fun w' hS' => ?_) ?_
      · have hc : w'.cell? ⟨G5, 32, none⟩ = some (.int .u32 (nn : Int)) := hS'.cell 32 _ (by
          rw [show (nn : Int) = xi.n from HX.out.2.2.2.1.symm]
          unfold inC
          rw [List.getElem?_append_right (by rw [bvs_length, HX.out.2.1]; exact Nat.le_refl _), bvs_length, HX.out.2.1]
          rfl)
        clear hS'
        go_wp2
        first
          | exact ⟨trivial, rfl⟩
          | exact rfl
      refine pl_take (i := 8) 32 rfl rfl rfl (by kernel_rfl) (by kernel_rfl) (by kernel_rfl) (by simp [Act.put]) hS.out ?_
      apply Exists.intro
      refine And.intro (fun w' hS' => ?_) ?_
      · go_wp2
        first
          | exact ⟨trivial, rfl⟩
          | exact rfl
      rw [wrap_nat nn (by have := HX.out.2.2.2.2.1; omega)]
      refine pl_heavy (i := 4) rfl (by kernel_rfl) ?_
      refine wpList_append_rd _ rfl (.tmp 24) (.tmp 27) 42 rfl (w.heap.size + 1) 5 i0 (.int .u8 0) 1 1 Try.underlying42 HU.out.1 HU.out.2.1 HU.out.2.2.1 HU.out.2.2.2 rfl (by decide) (.slice a n c) (n) _ rfl OB6.out (.slice (some ⟨G5, 0, none⟩) 32 32) (32) _ rfl (in_id_rd hS.out HX.out.2.1) (bvs_one _) (by unfold maxLen; have := Hn.out; have := Hq.out; omega) (by have := Hn.out; have := Hq.out; omega) L6.out ?_
      rintro v' w7 o' g' _ _
      obtain ⟨a', c', rfl⟩ := (Rd.of_own o').slice
      rw [← bvs_append] at o'
      have hgr := fun (j : Nat) hj => (OB6.out.lt j hj).1
      have BB7 := Lib.hid (Below.grown BB6.out g' BB6.out.size (fun j hj => by have := hgr j hj; omega))
      have K17 := Lib.hid (K16.out.grownT g' (fun e => by have := hgr _ e; omega))
      have OB7 := Lib.hid o'
      have L7 : Hid (w.heap.size + 1 ≤ (w7).heap.size) := Lib.hid (K17.out.lt)
      replace hS := Lib.hid (hS.out.grownT g' (cb_ne OB6.out hS.out (by decide)))
      clear o' g' hgr
      go_wp2
      refine And.intro hS.out ?_
      refine pl_heavy (i := 9) rfl (by kernel_rfl) ?_
      go_wp2_with fail
      refine (rnum4 w7 nn (by have := HX.out.2.2.2.2.1; omega)).mono ?_
      rintro e w8 ⟨a8, c8, rfl, r8, _, b8⟩
      have R8 := Lib.hid r8
      have BB8 := Lib.hid (BB7.out.tr b8)
      have K18 := Lib.hid (K17.out.fresh b8)
      have OB8 := Lib.hid (own_fresh OB7.out b8)
      have L8 : Hid (w.heap.size + 1 ≤ w8.heap.size) := Lib.hid (K18.out.lt)
      replace hS := Lib.hid (hS.out.fresh b8)
      clear r8 b8
      go_wp2
      refine And.intro hS.out ?_
      refine pl_heavy (i := 10) rfl (by kernel_rfl) ?_
      refine wpList_append_rd _ rfl (.tmp 28) (.tmp 33) 42 rfl (w.heap.size + 1) 5 i0 (.int .u8 0) 1 1 Try.underlying42 HU.out.1 HU.out.2.1 HU.out.2.2.1 HU.out.2.2.2 rfl (by decide) (.slice a' (n + 32) c') (n + 32) _ rfl OB8.out (.slice a8 4 c8) (4) _ rfl (R8.out) (bvs_one _) (by unfold maxLen; have := Hn.out; have := Hq.out; omega) (by have := Hn.out; have := Hq.out; omega) L8.out ?_
      have OBX := OB8
      rintro v' w9 o' g' _ _
      obtain ⟨a', c', rfl⟩ := (Rd.of_own o').slice
      rw [← bvs_append] at o'
      have hgr := fun (j : Nat) hj => (OB8.out.lt j hj).1
      have BB9 := Lib.hid (Below.grown BB8.out g' BB8.out.size (fun j hj => by have := hgr j hj; omega))
      have K19 := Lib.hid (K18.out.grownT g' (fun e => by have := hgr _ e; omega))
      have OB9 := Lib.hid o'
      have L9 : Hid (w.heap.size + 1 ≤ (w9).heap.size) := Lib.hid (K19.out.lt)
      replace hS := Lib.hid (hS.out.grownT g' (cb_ne OB8.out hS.out (by decide)))
      clear OBX o' g' hgr
      go_wp2
      refine And.intro hS.out ?_
      refine pl_take (i := 11) 3 rfl rfl rfl (by kernel_rfl) (by kernel_rfl) (by kernel_rfl) (by simp [Act.put]) hS.out ?_
      apply Exists.intro
      refine And.intro (fun w' hS' => ?_) ?_
      · go_wp2
        first
          | exact ⟨trivial, rfl⟩
          | exact rfl
      refine pl_done (by kernel_rfl) ?_
      have hcw := hS.out.cell 33 _ (inC_33 HX.out.2.1)
      have C5 := Lib.hid (rblob_any w9 ux xi.wit (HWI.out.fresh BB9.out) (by have := HX.out.2.2.2.2.2; omega))
      go_wp2_with fail
      refine (C5.out).mono ?_
      rintro e w10 ⟨v10, rfl, o10, b10⟩
      obtain ⟨a10, c10, rfl⟩ := (Rd.of_own o10).slice
      have R10 := Lib.hid (Rd.of_own o10)
      have BB10 := Lib.hid (BB9.out.tr b10)
      have K110 := Lib.hid (K19.out.fresh b10)
      have OB10 := Lib.hid (own_fresh OB9.out b10)
      have L10 : Hid (w.heap.size + 1 ≤ w10.heap.size) := Lib.hid (K110.out.lt)
      rw [← HQ.out] at R10 ⊢
      clear o10 b10 hcw C5
      go_wp2_with (at_builtin; apply Stop.mk)
      refine Stop.go ?_
      refine wpList_append_rd _ rfl (.tmp 35) (.tmp 38) 42 rfl (w.heap.size + 1) 5 i0 (.int .u8 0) 1 1 Try.underlying42 HU.out.1 HU.out.2.1 HU.out.2.2.1 HU.out.2.2.2 rfl (by decide) (.slice a' (n + 32 + 4) c') (n + 32 + 4) _ rfl OB10.out (.slice a10 q c10) (q) _ rfl (R10.out) (bvs_one _) (by unfold maxLen; have := Hn.out; have := Hq.out; omega) (by have := Hn.out; have := Hq.out; omega) L10.out ?_
      rintro v' w11 o' g' _ _
      obtain ⟨a', c', rfl⟩ := (Rd.of_own o').slice
      rw [← bvs_append] at o'
      have hgr := fun (j : Nat) hj => (OB10.out.lt j hj).1
      have BB11 := Lib.hid (Below.grown BB10.out g' BB10.out.size (fun j hj => by have := hgr j hj; omega))
      have K111 := Lib.hid (K110.out.grownT g' (fun e => by have := hgr _ e; omega))
      have OB11 := Lib.hid o'
      have L11 : Hid (w.heap.size + 1 ≤ (w11).heap.size) := Lib.hid (K111.out.lt)
      have Q : Hid (w11.ownsRow (w.heap.size + 1) 5 1 (.slice a' (n + 32 + 4 + q) c') (n + 32 + 4 + q) (bvs (le N 2 ++ (x.ins.take (k + 1)).flatMap inpB))) := Lib.hid (by
        have e : ((((le N 2 ++ (x.ins.take k).flatMap inpB) ++ xi.id) ++ le nn 4) ++ (le xi.wit.length 4 ++ xi.wit)) = le N 2 ++ (x.ins.take (k + 1)).flatMap inpB := by
          rw [flatMap_next inpB HX.out.1]
          unfold inpB
          rw [show xi.n.toNat = nn by have := HX.out.2.2.2.1; omega]
          simp
        rw [← e]
        exact OB11.out)
      clear o' g' hgr OB11
      go_wp2
      go_roundw
      case rel => exact ⟨BB11.out, K111.out, k + 1, _, a', c', HK.out, by go_num, rfl, Q.out⟩
      case measure => simp only [RowKit.intOf]; have := HK.out; omega
    · have ik : ¬ ((k : Int) < (N : Int)) := by omega
      have hkN : k = N := by omega
      replace OB : Hid (wr.ownsRow (w.heap.size + 1) 5 1 (.slice a n c) n (bvs (le N 2 ++ x.ins.flatMap inpB))) := Lib.hid (by
        have h := OB.out
        rwa [List.take_of_length_le (by rw [← HL.out.1]; omega)] at h)
      clear hlt hk hkN
      have L1 : Hid (w.heap.size + 1 ≤ wr.heap.size) := Lib.hid (K1.out.lt)
      have hc1 := K1.out.cell 1 _ rfl
      go_wp2_with fail
      refine (rnum2 wr K (by have := HS.out.2.1; omega)).mono ?_
      rintro e w3 ⟨a3, c3, rfl, r3, _, b3⟩
      have R3 := Lib.hid r3
      have BB3 := Lib.hid (BB.out.tr b3)
      have K13 := Lib.hid (K1.out.fresh b3)
      have OB3 := Lib.hid (own_fresh OB.out b3)
      have L3 : Hid (w.heap.size + 1 ≤ w3.heap.size) := Lib.hid (K13.out.lt)
      have Hq : Hid ((0 : Nat) ≤ 260) := Lib.hid (by omega)
      clear r3 b3 hc0 hc1
      go_wp2_with (at_builtin; apply Stop.mk)
      refine Stop.go ?_
      refine wpList_append_rd _ rfl (.tmp 40) (.tmp 45) 42 rfl (w.heap.size + 1) 5 i0 (.int .u8 0) 1 1 Try.underlying42 HU.out.1 HU.out.2.1 HU.out.2.2.1 HU.out.2.2.2 rfl (by decide) (.slice a n c) (n) _ rfl OB3.out (.slice a3 2 c3) (2) _ rfl (R3.out) (bvs_one _) (by unfold maxLen; have := Hn.out; have := Hq.out; omega) (by have := Hn.out; have := Hq.out; omega) L3.out ?_
      rintro v' w4 o' g' _ _
      obtain ⟨a', c', rfl⟩ := (Rd.of_own o').slice
      rw [← bvs_append] at o'
      have hgr := fun (j : Nat) hj => (OB3.out.lt j hj).1
      have BB4 := Lib.hid (Below.grown BB3.out g' BB3.out.size (fun j hj => by have := hgr j hj; omega))
      have K14 := Lib.hid (K13.out.grownT g' (fun e => by have := hgr _ e; omega))
      have OB4 := Lib.hid o'
      have L4 : Hid (w.heap.size + 1 ≤ (w4).heap.size) := Lib.hid (K14.out.lt)
      obtain ⟨L0, hL0⟩ : ∃ L, L = (le N 2 ++ x.ins.flatMap inpB) ++ le K 2 := ⟨_, rfl⟩
      have HL0 := Lib.hid hL0
      rw [← hL0] at OB4
      obtain ⟨n0, hn0⟩ : ∃ m, m = n + 2 := ⟨_, rfl⟩
      rw [← hn0] at OB4 ⊢
      have HN0 : Hid (n0 = L0.length ∧ n0 ≤ 20010) := Lib.hid ⟨by have h := OB4.out.1; rw [bvs_length] at h; omega, by have := Hn.out; omega⟩
      clear o' g' hgr hL0 hn0 OB OB3 BB K1 L1
      go_wp2
      go_loopw [3, 6] (fun v3 v6 wr => Below w.heap.size w wr ∧ CB wr 37 w.heap.size [.slice a0 N c0, .slice a2 K c2, .int .u64 (mm : Int)] ∧ ∃ (k n : Nat) (a : Option Addr) (c : Nat), k ≤ K ∧ v6 = .int .i64 (k : Int) ∧ v3 = .slice a n c ∧ wr.ownsRow (w.heap.size + 1) 5 1 (.slice a n c) n (bvs (L0 ++ (x.outs.take k).flatMap outpB)))
        (fun _ v _ => K - (RowKit.intOf v).toNat)
      case atStart => exact ⟨BB4.out, K14.out, 0, n0, a', c', Nat.zero_le _, rfl, rfl, by simpa using OB4.out⟩
      case round =>
        clear OB4 Hn
        obtain ⟨hb, hk1, k, n, a, c, hk, rfl, rfl, how⟩ := hrel
        have BB := Lib.hid hb
        have K1 := Lib.hid hk1
        have OB := Lib.hid how
        have hn : n = (L0 ++ (x.outs.take k).flatMap outpB).length := by
          have h := how.1
          rw [bvs_length] at h
          omega
        have Hn : Hid (n ≤ 30000) := Lib.hid (by rw [hn, List.length_append]; have := HFO.out k; have := HN0.out; omega)
        clear hb hk1 how hn
        have hc1 := K1.out.cell 1 _ rfl
        by_cases hlt : k < K
        · obtain ⟨o, hx⟩ : ∃ z, x.outs[k]? = some z := ⟨_, List.getElem?_eq_getElem (by rw [← HL.out.2.1]; exact hlt)⟩
          obtain ⟨ad, cx, he⟩ := rd_some HI.out.2 (by omega)
          simp only [Value.slice.injEq, true_and] at he
          obtain ⟨rfl, rfl⟩ := he
          have hok := HOK.out.2 o (List.mem_of_getElem? hx)
          obtain ⟨am, ham⟩ := Int.eq_ofNat_of_zero_le (HW.out.2.1 o (List.mem_of_getElem? hx)).1
          have hal : am < 18446744073709551616 := by have := (HW.out.2.1 o (List.mem_of_getElem? hx)).2; omega
          have HX := Lib.hid (And.intro hx (And.intro hok (And.intro ham hal)))
          have HZL : Hid (∀ z ∈ x.outs, (outC z).length = 33) := Lib.hid (fun z hz => outC_length (HOK.out.2 z hz))
          have ik : (k : Int) < (K : Int) := by omega
          have HK := Lib.hid hlt
          have L6 : Hid (w.heap.size + 1 ≤ wr.drew.heap.size) := Lib.hid K1.out.lt
          have hS : Hid (CB wr.drew 37 w.heap.size [.slice a0 N c0, .slice (some ad) K c2, .int .u64 (mm : Int)] ∧ Rd wr.drew 33 (.slice (some ad) K c2) K (x.outs.flatMap outC)) := Lib.hid ⟨K1.out.drew, HI.out.2.fresh BB.out.drew⟩
          clear hx hok ham hal hlt hk
          go_wp2_with fail
          clear hc1
          obtain ⟨w6, hw6⟩ : ∃ w6, w6 = wr.drew := ⟨_, rfl⟩
          have OB6 : Hid (w6.ownsRow (w.heap.size + 1) 5 1 (.slice a n c) n (bvs (L0 ++ (x.outs.take k).flatMap outpB))) := Lib.hid (by rw [hw6]; exact OB.out.drew)
          have BB6 : Hid (Below w.heap.size w w6) := Lib.hid (by rw [hw6]; exact BB.out.drew)
          have K16 : Hid (CB w6 37 w.heap.size [.slice a0 N c0, .slice (some ad) K c2, .int .u64 (mm : Int)]) := Lib.hid (by rw [hw6]; exact K1.out.drew)
          refine pl_start 17 rfl (fun w' => CB w' 37 w.heap.size [.slice a0 N c0, .slice (some ad) K c2, .int .u64 (mm : Int)] ∧ Rd w' 33 (.slice (some ad) K c2) K (x.outs.flatMap outC)) (by kernel_rfl) ?_
          rw [← hw6] at hS L6 ⊢
          clear hw6 OB BB K1
          refine pl_take (i := 0) 54 rfl rfl rfl (by kernel_rfl) (by kernel_rfl) (by kernel_rfl) (by simp [Act.put]) hS.out ?_
          apply Exists.intro
          refine And.intro (fun w' hS' => ?_) ?_
          · go_wp2
            first
              | exact ⟨trivial, rfl⟩
              | exact rfl
          refine pl_take (i := 1) 55 rfl rfl rfl (by kernel_rfl) (by kernel_rfl) (by kernel_rfl) (by simp [Act.put]) hS.out ?_
          apply Exists.intro
          refine And.intro (fun w' hS' => ?_) ?_
          · go_wp2
            first
              | exact ⟨trivial, rfl⟩
              | exact rfl
          refine pl_take (i := 2) 56 rfl rfl rfl (by kernel_rfl) (by kernel_rfl) (by kernel_rfl) (by simp [Act.put]) hS.out ?_
          apply Exists.intro
          refine And.intro (fun w' hS' => ?_) ?_
          · have hc := hS'.1.cell 1 _ rfl
            clear hS'
            go_wp2
            first
              | exact ⟨trivial, rfl⟩
              | exact rfl
          refine pl_take (i := 3) 57 rfl rfl rfl (by kernel_rfl) (by kernel_rfl) (by kernel_rfl) (by simp [Act.put]) hS.out ?_
          apply Exists.intro
          refine And.intro (fun w' hS' => ?_) ?_
          · go_wp2
            first
              | exact ⟨trivial, rfl⟩
              | exact rfl
          refine pl_take (i := 4) 58 rfl rfl rfl (by kernel_rfl) (by kernel_rfl) (by kernel_rfl) (by simp [Act.put]) hS.out ?_
          apply Exists.intro
          refine And.intro (fun w' hS' => ?_) ?_
          · clear hS'
            go_wp2
            first
              | exact ⟨trivial, rfl⟩
              | exact rfl
          refine pl_take (i := 5) 59 rfl rfl rfl (by kernel_rfl) (by kernel_rfl) (by kernel_rfl) (by simp [Act.put]) hS.out ?_
          apply Exists.intro
          refine And.intro (fun w' hS' => ?_) ?_
          · go_wp2
            first
              | exact ⟨trivial, rfl⟩
              | exact rfl
          refine pl_take (i := 6) 60 rfl rfl rfl (by kernel_rfl) (by kernel_rfl) (by kernel_rfl) (by simp [Act.put]) hS.out ?_
          apply Exists.intro
          refine And.intro (fun w' hS' => ?_) ?_
          · have hc : w'.cell? (ad.add (k * 33)) = some (.int .u64 (am : Int)) := by
              have h := hS'.2.at HZL.out HX.out.1 0 _ rfl
              rwa [add_zero_addr, show o.amt = (am : Int) from HX.out.2.2.1] at h
            clear hS'
            go_wp2
            first
              | exact ⟨trivial, rfl⟩
              | exact rfl
          refine pl_take (i := 9) 63 rfl rfl rfl (by kernel_rfl) (by kernel_rfl) (by kernel_rfl) (by simp [Act.put]) hS.out ?_
          apply Exists.intro
          refine And.intro (fun w' hS' => ?_) ?_
          · go_wp2
            first
              | exact ⟨trivial, rfl⟩
              | exact rfl
          refine pl_take (i := 10) 64 rfl rfl rfl (by kernel_rfl) (by kernel_rfl) (by kernel_rfl) (by simp [Act.put]) hS.out ?_
          apply Exists.intro
          refine And.intro (fun w' hS' => ?_) ?_
          · have hc := hS'.1.cell 1 _ rfl
            clear hS'
            go_wp2
            first
              | exact ⟨trivial, rfl⟩
              | exact rfl
          refine pl_take (i := 11) 65 rfl rfl rfl (by kernel_rfl) (by kernel_rfl) (by kernel_rfl) (by simp [Act.put]) hS.out ?_
          apply Exists.intro
          refine And.intro (fun w' hS' => ?_) ?_
          · go_wp2
            first
              | exact ⟨trivial, rfl⟩
              | exact rfl
          refine pl_take (i := 12) 66 rfl rfl rfl (by kernel_rfl) (by kernel_rfl) (by kernel_rfl) (by simp [Act.put]) hS.out ?_
          apply Exists.intro
          refine And.intro (fun w' hS' => ?_) ?_
          · clear hS'
            go_wp2
            first
              | exact ⟨trivial, rfl⟩
              | exact rfl
          refine pl_take (i := 13) 67 rfl rfl rfl (by kernel_rfl) (by kernel_rfl) (by kernel_rfl) (by simp [Act.put]) hS.out ?_
          apply Exists.intro
          refine And.intro (fun w' hS' => ?_) ?_
          · go_wp2
            first
              | exact ⟨trivial, rfl⟩
              | exact rfl
          refine pl_take (i := 14) 68 rfl rfl rfl (by kernel_rfl) (by kernel_rfl) (by kernel_rfl) (by simp [Act.put]) hS.out ?_
          apply Exists.intro
          refine And.intro (fun w' hS' => ?_) ?_
          · clear hS'
            go_wp2
            first
              | exact ⟨trivial, rfl⟩
              | exact rfl
          refine pl_heavy (i := 7) rfl (by kernel_rfl) ?_
          go_wp2_with fail
          refine (rnum8 w6 am HX.out.2.2.2).mono ?_
          rintro e w7 ⟨a7, c7, rfl, r7, _, b7⟩
          have R7 := Lib.hid r7
          have BB7 := Lib.hid (BB6.out.tr b7)
          have K17 := Lib.hid (K16.out.fresh b7)
          have OB7 := Lib.hid (own_fresh OB6.out b7)
          have L7 : Hid (w.heap.size + 1 ≤ w7.heap.size) := Lib.hid (K17.out.lt)
          replace hS := Lib.hid (And.intro (hS.out.1.fresh b7) (hS.out.2.fresh b7))
          clear r7 b7
          go_wp2
          refine And.intro hS.out ?_
          refine pl_heavy (i := 8) rfl (by kernel_rfl) ?_
          refine wpList_append_rd _ rfl (.tmp 54) (.tmp 61) 42 rfl (w.heap.size + 1) 5 i0 (.int .u8 0) 1 1 Try.underlying42 HU.out.1 HU.out.2.1 HU.out.2.2.1 HU.out.2.2.2 rfl (by decide) (.slice a n c) (n) _ rfl OB7.out (.slice a7 8 c7) (8) _ rfl (R7.out) (bvs_one _) (by unfold maxLen; have := Hn.out; have := Hq.out; omega) (by have := Hn.out; have := Hq.out; omega) L7.out ?_
          rintro v' w8 o' g' _ _
          obtain ⟨a', c', rfl⟩ := (Rd.of_own o').slice
          rw [← bvs_append] at o'
          have hgr := fun (j : Nat) hj => (OB7.out.lt j hj).1
          have BB8 := Lib.hid (Below.grown BB7.out g' BB7.out.size (fun j hj => by have := hgr j hj; omega))
          have K18 := Lib.hid (K17.out.grownT g' (fun e => by have := hgr _ e; omega))
          have OB8 := Lib.hid o'
          have L8 : Hid (w.heap.size + 1 ≤ (w8).heap.size) := Lib.hid (K18.out.lt)
          replace hS := Lib.hid (And.intro K18.out (HI.out.2.fresh BB8.out))
          clear o' g' hgr
          go_wp2
          refine And.intro hS.out ?_
          have hlk := Lib.hid (out_lock_rd (hS.out.2.at HZL.out HX.out.1) HX.out.2.1)
          refine pl_heavy (i := 15) rfl (by kernel_rfl) ?_
          refine wpList_append_rd _ rfl (.tmp 62) (.tmp 68) 42 rfl (w.heap.size + 1) 5 i0 (.int .u8 0) 1 1 Try.underlying42 HU.out.1 HU.out.2.1 HU.out.2.2.1 HU.out.2.2.2 rfl (by decide) (.slice a' (n + 8) c') (n + 8) _ rfl OB8.out (.slice (some ⟨(ad.add (k * 33)).block, (ad.add (k * 33)).off + 1, none⟩) 32 32) (32) _ rfl (hlk.out) (bvs_one _) (by unfold maxLen; have := Hn.out; have := Hq.out; omega) (by have := Hn.out; have := Hq.out; omega) L8.out ?_
          rintro v' w9 o' g' _ _
          obtain ⟨a', c', rfl⟩ := (Rd.of_own o').slice
          rw [← bvs_append] at o'
          have hgr := fun (j : Nat) hj => (OB8.out.lt j hj).1
          have BB9 := Lib.hid (Below.grown BB8.out g' BB8.out.size (fun j hj => by have := hgr j hj; omega))
          have K19 := Lib.hid (K18.out.grownT g' (fun e => by have := hgr _ e; omega))
          have OB9 := Lib.hid o'
          have L9 : Hid (w.heap.size + 1 ≤ (w9).heap.size) := Lib.hid (K19.out.lt)
          replace hS := Lib.hid (And.intro K19.out (HI.out.2.fresh BB9.out))
          have Q : Hid (w9.ownsRow (w.heap.size + 1) 5 1 (.slice a' (n + 8 + 32) c') (n + 8 + 32) (bvs (L0 ++ (x.outs.take (k + 1)).flatMap outpB))) := Lib.hid (by
            have e : ((L0 ++ (x.outs.take k).flatMap outpB) ++ le am 8) ++ o.lock = L0 ++ (x.outs.take (k + 1)).flatMap outpB := by
              rw [flatMap_next outpB HX.out.1]
              unfold outpB
              rw [show o.amt.toNat = am by have := HX.out.2.2.1; omega]
              simp
            rw [← e]
            exact OB9.out)
          clear o' g' hgr OB9 hlk
          go_wp2
          refine And.intro hS.out ?_
          refine pl_take (i := 16) 3 rfl rfl rfl (by kernel_rfl) (by kernel_rfl) (by kernel_rfl) (by simp [Act.put]) hS.out ?_
          apply Exists.intro
          refine And.intro (fun w' hS' => ?_) ?_
          · go_wp2
            first
              | exact ⟨trivial, rfl⟩
              | exact rfl
          refine pl_done (by kernel_rfl) ?_
          go_wp2
          go_roundw
          case rel => exact ⟨BB9.out, K19.out, k + 1, _, a', c', HK.out, by go_num, rfl, Q.out⟩
          case measure => simp only [RowKit.intOf]; have := HK.out; omega
        · have ik : ¬ ((k : Int) < (K : Int)) := by omega
          have hkK : k = K := by omega
          replace OB : Hid (wr.ownsRow (w.heap.size + 1) 5 1 (.slice a n c) n (bvs (L0 ++ x.outs.flatMap outpB))) := Lib.hid (by
            have h := OB.out
            rwa [List.take_of_length_le (by rw [← HL.out.2.1]; omega)] at h)
          clear hlt hk hkK
          have hcn := K1.out.cell 2 _ rfl
          go_wp2_with fail
          refine (rnum8 wr mm HM.out.2).mono ?_
          rintro e w7 ⟨a7, c7, rfl, r7, _, b7⟩
          have R7 := Lib.hid r7
          have BB7 := Lib.hid (BB.out.tr b7)
          have K17 := Lib.hid (K1.out.fresh b7)
          have OB7 := Lib.hid (own_fresh OB.out b7)
          have L7 : Hid (w.heap.size + 1 ≤ w7.heap.size) := Lib.hid (K17.out.lt)
          clear r7 b7 hcn hc1
          go_wp2_with (at_builtin; apply Stop.mk)
          refine Stop.go ?_
          refine wpList_append_rd _ rfl (.tmp 70) (.tmp 73) 42 rfl (w.heap.size + 1) 5 i0 (.int .u8 0) 1 1 Try.underlying42 HU.out.1 HU.out.2.1 HU.out.2.2.1 HU.out.2.2.2 rfl (by decide) (.slice a n c) (n) _ rfl OB7.out (.slice a7 8 c7) (8) _ rfl (R7.out) (bvs_one _) (by unfold maxLen; have := Hn.out; have := Hq.out; omega) (by have := Hn.out; have := Hq.out; omega) L7.out ?_
          rintro v' w8 o' g' _ _
          obtain ⟨a', c', rfl⟩ := (Rd.of_own o').slice
          rw [← bvs_append] at o'
          have hgr := fun (j : Nat) hj => (OB7.out.lt j hj).1
          have BB8 := Lib.hid (Below.grown BB7.out g' BB7.out.size (fun j hj => by have := hgr j hj; omega))
          have K18 := Lib.hid (K17.out.grownT g' (fun e => by have := hgr _ e; omega))
          have OB8 := Lib.hid o'
          have L8 : Hid (w.heap.size + 1 ≤ (w8).heap.size) := Lib.hid (K18.out.lt)
          have e9 : (L0 ++ x.outs.flatMap outpB) ++ le mm 8 = packB x := by
            rw [HL0.out]
            unfold packB
            rw [HM.out.1, ← HL.out.1, ← HL.out.2.1]
          have hl9 : n + 8 = (packB x).length := by
            have h := OB8.out.1
            rw [bvs_length, e9] at h
            omega
          have Q : Hid (w8.ownsRow w.heap.size 5 1 (.slice a' (n + 8) c') (packB x).length (bvs (packB x))) := Lib.hid (by
            have h := own_lower' OB8.out (Nat.le_succ _)
            rw [e9, hl9] at h
            rw [hl9]
            exact h)
          clear o' g' hgr e9 hl9 OB8
          go_wp2
          go_ret
          exact ⟨_, rfl, Q.out, BB8.out⟩

end Go.Proofs.Ytkbahhnjoidhcaa
