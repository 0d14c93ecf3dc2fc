/- slices.Equal of hashes, outputs and bytes: the walks. -/
import Derived.Test.YtkbahhnjoidhcaaXc
import Derived.Test.YtkbahhnjoidhcaaG4
namespace Go.Proofs.Ytkbahhnjoidhcaa
set_option linter.unusedVariables false
set_option linter.unusedSimpArgs false
open Go.RowKit

theorem infoOut : (Try.prog.info? 46).map (·.size) = some 33 := by kernel_rfl

theorem byte_ne (w : World) (x y : UInt8) : (binOp .neq 5 (.int .u8 (x.toNat : Int)) (.int .u8 (y.toNat : Int))).run Try.prog w = .ok (.bool (x != y)) w := by
  have e : ((x.toNat : Int) == (y.toNat : Int)) = (x == y) := by
    rw [Bool.eq_iff_iff]
    simp [← UInt8.toNat_inj]
    omega
  simp [binOp, Op.intCmp, bne, e]

theorem byte_guard (w : World) (op : BinOp) (x y : Operand) (k k' : IntKind) (a b : Int) (t : TypeId) : (eqGuard op t x y (.int k a) (.int k' b)).run Try.prog w = .ok () w := by
  cases op <;> rfl

theorem take_step {α : Type} {l m : List α} {k : Nat} {x y : α} (hx : l[k]? = some x) (hy : m[k]? = some y) (h : l.take k = m.take k) (hxy : x = y) : l.take (k + 1) = m.take (k + 1) := by
  rw [List.take_add_one, List.take_add_one, hx, hy, h, hxy]

set_option maxRecDepth 100000 in
set_option maxHeartbeats 1000000 in
theorem equal_hash (w : World) (v u : Value) (l m : List Bs) (hv : Hs w v l) (hu : Hs w u m) :
    Calls Try.prog 43 #[v, u] w fun e w' => e = .returned (.bool (decide (l = m))) ∧ Below w.heap.size w w' := by
  obtain ⟨a0, c0, rfl⟩ := hv.slice
  obtain ⟨a1, c1, rfl⟩ := hu.slice
  obtain ⟨N, hN⟩ : ∃ N, N = l.length := ⟨_, rfl⟩
  obtain ⟨M, hM⟩ : ∃ M, M = m.length := ⟨_, rfl⟩
  obtain ⟨R, hR⟩ : ∃ R, R = decide (l = m) := ⟨_, rfl⟩
  rw [← hR]
  by_cases hNM : N = M
  · have HR := Lib.hid hR
    have HN := Lib.hid (And.intro hN hM)
    rw [← hN] at hv ⊢
    rw [← hM, ← hNM] at hu ⊢
    have HM := Lib.hid hNM
    have HV := Lib.hid hv
    have HU := Lib.hid hu
    have bN : (N : Int) ≤ maxLen := by
      have h1 : N ≤ maxLen := by
        have := hv.2.2
        rcases this with ⟨he, _⟩ | ⟨ad, c', he, h2, h3, _⟩
        · simp only [Value.slice.injEq] at he
          omega
        · simp only [Value.slice.injEq] at he
          omega
      omega
    have bN' : (N : Int) ≤ 9223372036854775807 := by unfold maxLen at bN; omega
    clear hR hN hM hNM hv hu bN
    go_enter Try.func43, Try.ntmps43
    go_wp2
    go_loopw [5, 13] (fun v5 v13 wr => Below w.heap.size w wr ∧ ∃ k : Nat, k ≤ N ∧ v13 = .int .i64 (k : Int) ∧ l.take k = m.take k)
      (fun _ v _ => N - (RowKit.intOf v).toNat)
    case atStart => exact ⟨Below.refl _ _, 0, by omega, rfl, rfl⟩
    case round =>
      obtain ⟨hb, k, hk, rfl, ht⟩ := hrel
      have HB := Lib.hid hb
      have HT := Lib.hid ht
      clear hb ht
      by_cases hlt : k < N
      · obtain ⟨x, hx⟩ : ∃ x, l[k]? = some x := ⟨_, List.getElem?_eq_getElem (by rw [← HN.out.1]; exact hlt)⟩
        obtain ⟨y, hy⟩ : ∃ y, m[k]? = some y := ⟨_, List.getElem?_eq_getElem (by rw [← HN.out.2, ← HM.out]; exact hlt)⟩
        obtain ⟨ad, c, he⟩ := HV.out.isSome HN.out.1.symm (by omega)
        simp only [Value.slice.injEq, true_and] at he
        obtain ⟨rfl, rfl⟩ := he
        obtain ⟨bd, d, he⟩ := HU.out.isSome (n := N) (by rw [HM.out]; exact HN.out.2.symm) (by omega)
        simp only [Value.slice.injEq, true_and] at he
        obtain ⟨rfl, rfl⟩ := he
        have HXY := Lib.hid (And.intro hx hy)
        have HE := Lib.hid (And.intro (HV.out.1.get HXY.out.1) (HU.out.1.get HXY.out.2))
        have ik : (k : Int) < (N : Int) := by omega
        have HK := Lib.hid hlt
        have hS : Hid (Hs wr.drew (.slice (some ad) N c0) l ∧ Hs wr.drew (.slice (some bd) N c1) m) := Lib.hid ⟨HV.out.fresh HB.out.drew, HU.out.fresh HB.out.drew⟩
        clear hx hy hlt hk
        cases hxy : (x != y)
        · have QX := Lib.hid hxy
          clear hxy
          go_wp2_with fail
          refine pl_start 9 rfl (fun w' => Hs w' (.slice (some ad) N c0) l ∧ Hs w' (.slice (some bd) N c1) m) (by kernel_rfl) ?_
          refine pl_take (i := 0) 16 rfl rfl rfl (by kernel_rfl) (by kernel_rfl) (by kernel_rfl) (by simp [Act.put]) hS.out ?_
          apply Exists.intro
          refine And.intro (fun w' hS' => ?_) ?_
          · go_wp2
            first
              | exact ⟨trivial, rfl⟩
              | exact rfl
          refine pl_take (i := 1) 17 rfl rfl rfl (by kernel_rfl) (by kernel_rfl) (by kernel_rfl) (by simp [Act.put]) hS.out ?_
          apply Exists.intro
          refine And.intro (fun w' hS' => ?_) ?_
          · go_wp2
            first
              | exact ⟨trivial, rfl⟩
              | exact rfl
          refine pl_take (i := 2) 18 rfl rfl rfl (by kernel_rfl) (by kernel_rfl) (by kernel_rfl) (by simp [Act.put]) hS.out ?_
          apply Exists.intro
          refine And.intro (fun w' hS' => ?_) ?_
          · clear hS'
            go_wp2
            exact ⟨trivial, rfl⟩
          refine pl_take (i := 3) 19 rfl rfl rfl (by kernel_rfl) (by kernel_rfl) (by kernel_rfl) (by simp [Act.put]) hS.out ?_
          apply Exists.intro
          refine And.intro (fun w' hS' => ?_) ?_
          · refine wpList_load_agg rfl 24 (.tmp 18) rfl (ad.add (k * 32)) rfl (bvs x) _ (hS'.1.elem' HXY.out.1) Try.underlying24 rfl (by rw [bvs_length, HE.out.1]; exact infoHash) ?_
            clear hS'
            go_wp2
            exact ⟨trivial, rfl⟩
          refine pl_take (i := 4) 20 rfl rfl rfl (by kernel_rfl) (by kernel_rfl) (by kernel_rfl) (by simp [Act.put]) hS.out ?_
          apply Exists.intro
          refine And.intro (fun w' hS' => ?_) ?_
          · go_wp2
            first
              | exact ⟨trivial, rfl⟩
              | exact rfl
          refine pl_take (i := 5) 21 rfl rfl rfl (by kernel_rfl) (by kernel_rfl) (by kernel_rfl) (by simp [Act.put]) hS.out ?_
          apply Exists.intro
          refine And.intro (fun w' hS' => ?_) ?_
          · go_wp2
            first
              | exact ⟨trivial, rfl⟩
              | exact rfl
          refine pl_take (i := 6) 22 rfl rfl rfl (by kernel_rfl) (by kernel_rfl) (by kernel_rfl) (by simp [Act.put]) hS.out ?_
          apply Exists.intro
          refine And.intro (fun w' hS' => ?_) ?_
          · clear hS'
            go_wp2
            exact ⟨trivial, rfl⟩
          refine pl_take (i := 7) 23 rfl rfl rfl (by kernel_rfl) (by kernel_rfl) (by kernel_rfl) (by simp [Act.put]) hS.out ?_
          apply Exists.intro
          refine And.intro (fun w' hS' => ?_) ?_
          · refine wpList_load_agg rfl 24 (.tmp 22) rfl (bd.add (k * 32)) rfl (bvs y) _ (hS'.2.elem' HXY.out.2) Try.underlying24 rfl (by rw [bvs_length, HE.out.2]; exact infoHash) ?_
            clear hS'
            go_wp2
            exact ⟨trivial, rfl⟩
          refine pl_take (i := 8) 24 rfl rfl rfl (by kernel_rfl) (by kernel_rfl) (by kernel_rfl) (by simp [Act.put]) hS.out ?_
          apply Exists.intro
          refine And.intro (fun w' hS' => ?_) ?_
          · refine wpList_bin rfl .neq 24 24 (.tmp 19) (.tmp 23) rfl (.bool false) (eqGuard_agg _ _ _ _ _ _ _ (by kernel_rfl)) ((hash_ne w' x y HE.out.1 HE.out.2).trans (by rw [QX.out])) ?_
            clear hS'
            go_wp2
            exact ⟨trivial, rfl⟩
          refine pl_done (by kernel_rfl) ?_
          have B1 : Hid (Below w.heap.size w wr.drew) := HB.out.drew
          have HT' := Lib.hid (take_step HXY.out.1 HXY.out.2 HT.out (by simpa [bne] using QX.out))
          go_wp2
          go_roundw
          case rel => exact ⟨B1.out, k + 1, HK.out, by go_num, HT'.out⟩
          case measure => simp only [RowKit.intOf]; have := HK.out; omega
        · have QX := Lib.hid hxy
          clear hxy
          go_wp2_with fail
          refine pl_start 9 rfl (fun w' => Hs w' (.slice (some ad) N c0) l ∧ Hs w' (.slice (some bd) N c1) m) (by kernel_rfl) ?_
          refine pl_take (i := 0) 16 rfl rfl rfl (by kernel_rfl) (by kernel_rfl) (by kernel_rfl) (by simp [Act.put]) hS.out ?_
          apply Exists.intro
          refine And.intro (fun w' hS' => ?_) ?_
          · go_wp2
            first
              | exact ⟨trivial, rfl⟩
              | exact rfl
          refine pl_take (i := 1) 17 rfl rfl rfl (by kernel_rfl) (by kernel_rfl) (by kernel_rfl) (by simp [Act.put]) hS.out ?_
          apply Exists.intro
          refine And.intro (fun w' hS' => ?_) ?_
          · go_wp2
            first
              | exact ⟨trivial, rfl⟩
              | exact rfl
          refine pl_take (i := 2) 18 rfl rfl rfl (by kernel_rfl) (by kernel_rfl) (by kernel_rfl) (by simp [Act.put]) hS.out ?_
          apply Exists.intro
          refine And.intro (fun w' hS' => ?_) ?_
          · clear hS'
            go_wp2
            exact ⟨trivial, rfl⟩
          refine pl_take (i := 3) 19 rfl rfl rfl (by kernel_rfl) (by kernel_rfl) (by kernel_rfl) (by simp [Act.put]) hS.out ?_
          apply Exists.intro
          refine And.intro (fun w' hS' => ?_) ?_
          · refine wpList_load_agg rfl 24 (.tmp 18) rfl (ad.add (k * 32)) rfl (bvs x) _ (hS'.1.elem' HXY.out.1) Try.underlying24 rfl (by rw [bvs_length, HE.out.1]; exact infoHash) ?_
            clear hS'
            go_wp2
            exact ⟨trivial, rfl⟩
          refine pl_take (i := 4) 20 rfl rfl rfl (by kernel_rfl) (by kernel_rfl) (by kernel_rfl) (by simp [Act.put]) hS.out ?_
          apply Exists.intro
          refine And.intro (fun w' hS' => ?_) ?_
          · go_wp2
            first
              | exact ⟨trivial, rfl⟩
              | exact rfl
          refine pl_take (i := 5) 21 rfl rfl rfl (by kernel_rfl) (by kernel_rfl) (by kernel_rfl) (by simp [Act.put]) hS.out ?_
          apply Exists.intro
          refine And.intro (fun w' hS' => ?_) ?_
          · go_wp2
            first
              | exact ⟨trivial, rfl⟩
              | exact rfl
          refine pl_take (i := 6) 22 rfl rfl rfl (by kernel_rfl) (by kernel_rfl) (by kernel_rfl) (by simp [Act.put]) hS.out ?_
          apply Exists.intro
          refine And.intro (fun w' hS' => ?_) ?_
          · clear hS'
            go_wp2
            exact ⟨trivial, rfl⟩
          refine pl_take (i := 7) 23 rfl rfl rfl (by kernel_rfl) (by kernel_rfl) (by kernel_rfl) (by simp [Act.put]) hS.out ?_
          apply Exists.intro
          refine And.intro (fun w' hS' => ?_) ?_
          · refine wpList_load_agg rfl 24 (.tmp 22) rfl (bd.add (k * 32)) rfl (bvs y) _ (hS'.2.elem' HXY.out.2) Try.underlying24 rfl (by rw [bvs_length, HE.out.2]; exact infoHash) ?_
            clear hS'
            go_wp2
            exact ⟨trivial, rfl⟩
          refine pl_take (i := 8) 24 rfl rfl rfl (by kernel_rfl) (by kernel_rfl) (by kernel_rfl) (by simp [Act.put]) hS.out ?_
          apply Exists.intro
          refine And.intro (fun w' hS' => ?_) ?_
          · refine wpList_bin rfl .neq 24 24 (.tmp 19) (.tmp 23) rfl (.bool true) (eqGuard_agg _ _ _ _ _ _ _ (by kernel_rfl)) ((hash_ne w' x y HE.out.1 HE.out.2).trans (by rw [QX.out])) ?_
            clear hS'
            go_wp2
            exact ⟨trivial, rfl⟩
          refine pl_done (by kernel_rfl) ?_
          have B1 : Hid (Below w.heap.size w wr.drew) := HB.out.drew
          have hf : Hid (R = false) := Lib.hid (by
            rw [HR.out, decide_eq_false_iff_not]
            intro e
            have h1 := HXY.out.1
            rw [e, HXY.out.2] at h1
            have h2 := QX.out
            simp only [Option.some.injEq] at h1
            rw [h1] at h2
            simp at h2)
          go_wp2
          go_ret
          exact ⟨by rw [hf.out]; rfl, B1.out⟩
      · have ik : ¬ ((k : Int) < (N : Int)) := by omega
        have hkN : k = N := by omega
        have ht' : Hid (R = true) := Lib.hid (by
          have h1 := HT.out
          rw [List.take_of_length_le (by have := HN.out.1; omega), List.take_of_length_le (by have := HN.out.2; have := HM.out; omega)] at h1
          rw [HR.out, decide_eq_true h1])
        clear hkN
        go_wp2
        go_ret
        exact ⟨by rw [ht'.out]; rfl, HB.out⟩
  · have hf : Hid (R = false) := Lib.hid (by
      rw [hR, decide_eq_false_iff_not]
      intro e
      rw [e] at hN
      omega)
    rw [← hN, ← hM]
    have i1 : ¬ ((N : Int) = (M : Int)) := by omega
    clear hv hu hR hN hM hNM
    go_enter Try.func43, Try.ntmps43
    go_wp2
    go_ret
    exact ⟨by rw [hf.out]; rfl, Below.refl _ _⟩

theorem rd_some {w : World} {v : Value} {s n : Nat} {cs : List Value} (h : Rd w s v n cs) (h0 : 0 < n) : ∃ ad c, v = .slice (some ad) n c := by
  rcases h.2 with ⟨_, h1⟩ | ⟨ad, c, he, _⟩
  · omega
  · exact ⟨ad, c, he⟩

theorem Rd.byte {w : World} {ad : Addr} {n c : Nat} {l : Bs} (h : Rd w 1 (.slice (some ad) n c) n (bvs l)) {k : Nat} {x : UInt8} (hk : l[k]? = some x) : w.cell? (ad.add k) = some (.int .u8 (x.toNat : Int)) := by
  rcases h.2 with ⟨he, _⟩ | ⟨ad', c', he, _, _, hc⟩
  · cases he
  · simp only [Value.slice.injEq, Option.some.injEq] at he
    obtain ⟨rfl, _, _⟩ := he
    exact hc k _ (by rw [bvs, List.getElem?_map, hk]; rfl)

set_option maxRecDepth 100000 in
set_option maxHeartbeats 1000000 in
theorem equal_output (w : World) (v u : Value) (l m : List OutD) (hv : (∀ x ∈ l, OutOk x) ∧ Rd w 33 v l.length (l.flatMap outC)) (hu : (∀ x ∈ m, OutOk x) ∧ Rd w 33 u m.length (m.flatMap outC)) :
    Calls Try.prog 60 #[v, u] w fun e w' => e = .returned (.bool (decide (l = m))) ∧ Below w.heap.size w w' := by
  obtain ⟨a0, c0, rfl⟩ := hv.2.slice
  obtain ⟨a1, c1, rfl⟩ := hu.2.slice
  obtain ⟨N, hN⟩ : ∃ N, N = l.length := ⟨_, rfl⟩
  obtain ⟨M, hM⟩ : ∃ M, M = m.length := ⟨_, rfl⟩
  obtain ⟨R, hR⟩ : ∃ R, R = decide (l = m) := ⟨_, rfl⟩
  rw [← hR]
  by_cases hNM : N = M
  · have HR := Lib.hid hR
    have HN := Lib.hid (And.intro hN hM)
    rw [← hN] at hv ⊢
    rw [← hM, ← hNM] at hu ⊢
    have HM := Lib.hid hNM
    have HOK0 := Lib.hid (And.intro hv.1 hu.1)
    have HOK : Hid ((∀ x ∈ l, (outC x).length = 33) ∧ ∀ x ∈ m, (outC x).length = 33) := Lib.hid ⟨fun x hx => outC_length (hv.1 x hx), fun x hx => outC_length (hu.1 x hx)⟩
    have HV := Lib.hid hv.2
    have HU := Lib.hid hu.2
    have bN : (N : Int) ≤ maxLen := by
      have h1 : N ≤ maxLen := by
        have := hv.2.2
        rcases this with ⟨he, _⟩ | ⟨ad, c', he, h2, h3, _⟩
        · simp only [Value.slice.injEq] at he
          omega
        · simp only [Value.slice.injEq] at he
          omega
      omega
    have bN' : (N : Int) ≤ 9223372036854775807 := by unfold maxLen at bN; omega
    clear hR hN hM hNM hv hu bN
    go_enter Try.func60, Try.ntmps60
    go_wp2
    go_loopw [5, 13] (fun v5 v13 wr => Below w.heap.size w wr ∧ ∃ k : Nat, k ≤ N ∧ v13 = .int .i64 (k : Int) ∧ l.take k = m.take k)
      (fun _ v _ => N - (RowKit.intOf v).toNat)
    case atStart => exact ⟨Below.refl _ _, 0, by omega, rfl, rfl⟩
    case round =>
      obtain ⟨hb, k, hk, rfl, ht⟩ := hrel
      have HB := Lib.hid hb
      have HT := Lib.hid ht
      clear hb ht
      by_cases hlt : k < N
      · obtain ⟨x, hx⟩ : ∃ x, l[k]? = some x := ⟨_, List.getElem?_eq_getElem (by rw [← HN.out.1]; exact hlt)⟩
        obtain ⟨y, hy⟩ : ∃ y, m[k]? = some y := ⟨_, List.getElem?_eq_getElem (by rw [← HN.out.2, ← HM.out]; exact hlt)⟩
        obtain ⟨ad, c, he⟩ := rd_some HV.out (by omega)
        simp only [Value.slice.injEq, true_and] at he
        obtain ⟨rfl, rfl⟩ := he
        obtain ⟨bd, d, he⟩ := rd_some HU.out (by omega)
        simp only [Value.slice.injEq, true_and] at he
        obtain ⟨rfl, rfl⟩ := he
        have HXY := Lib.hid (And.intro hx hy)
        have HE := Lib.hid (And.intro (HOK0.out.1 _ (List.mem_of_getElem? HXY.out.1)) (HOK0.out.2 _ (List.mem_of_getElem? HXY.out.2)))
        have ik : (k : Int) < (N : Int) := by omega
        have HK := Lib.hid hlt
        have hS : Hid (Rd wr.drew 33 (.slice (some ad) N c0) N (l.flatMap outC) ∧ Rd wr.drew 33 (.slice (some bd) N c1) N (m.flatMap outC)) := Lib.hid ⟨HV.out.fresh HB.out.drew, HU.out.fresh HB.out.drew⟩
        clear hx hy hlt hk
        cases hxy : (!decide (x = y))
        · have QX := Lib.hid hxy
          clear hxy
          go_wp2_with fail
          refine pl_start 9 rfl (fun w' => Rd w' 33 (.slice (some ad) N c0) N (l.flatMap outC) ∧ Rd w' 33 (.slice (some bd) N c1) N (m.flatMap outC)) (by kernel_rfl) ?_
          refine pl_take (i := 0) 16 rfl rfl rfl (by kernel_rfl) (by kernel_rfl) (by kernel_rfl) (by simp [Act.put]) hS.out ?_
          apply Exists.intro
          refine And.intro (fun w' hS' => ?_) ?_
          · go_wp2
            first
              | exact ⟨trivial, rfl⟩
              | exact rfl
          refine pl_take (i := 1) 17 rfl rfl rfl (by kernel_rfl) (by kernel_rfl) (by kernel_rfl) (by simp [Act.put]) hS.out ?_
          apply Exists.intro
          refine And.intro (fun w' hS' => ?_) ?_
          · go_wp2
            first
              | exact ⟨trivial, rfl⟩
              | exact rfl
          refine pl_take (i := 2) 18 rfl rfl rfl (by kernel_rfl) (by kernel_rfl) (by kernel_rfl) (by simp [Act.put]) hS.out ?_
          apply Exists.intro
          refine And.intro (fun w' hS' => ?_) ?_
          · clear hS'
            go_wp2
            exact ⟨trivial, rfl⟩
          refine pl_take (i := 3) 19 rfl rfl rfl (by kernel_rfl) (by kernel_rfl) (by kernel_rfl) (by simp [Act.put]) hS.out ?_
          apply Exists.intro
          refine And.intro (fun w' hS' => ?_) ?_
          · refine wpList_load_agg rfl 46 (.tmp 18) rfl (ad.add (k * 33)) rfl (outC x) _ (hS'.1.at HOK.out.1 HXY.out.1) Try.underlying46 rfl (by rw [outC_length HE.out.1]; exact infoOut) ?_
            clear hS'
            go_wp2
            exact ⟨trivial, rfl⟩
          refine pl_take (i := 4) 20 rfl rfl rfl (by kernel_rfl) (by kernel_rfl) (by kernel_rfl) (by simp [Act.put]) hS.out ?_
          apply Exists.intro
          refine And.intro (fun w' hS' => ?_) ?_
          · go_wp2
            first
              | exact ⟨trivial, rfl⟩
              | exact rfl
          refine pl_take (i := 5) 21 rfl rfl rfl (by kernel_rfl) (by kernel_rfl) (by kernel_rfl) (by simp [Act.put]) hS.out ?_
          apply Exists.intro
          refine And.intro (fun w' hS' => ?_) ?_
          · go_wp2
            first
              | exact ⟨trivial, rfl⟩
              | exact rfl
          refine pl_take (i := 6) 22 rfl rfl rfl (by kernel_rfl) (by kernel_rfl) (by kernel_rfl) (by simp [Act.put]) hS.out ?_
          apply Exists.intro
          refine And.intro (fun w' hS' => ?_) ?_
          · clear hS'
            go_wp2
            exact ⟨trivial, rfl⟩
          refine pl_take (i := 7) 23 rfl rfl rfl (by kernel_rfl) (by kernel_rfl) (by kernel_rfl) (by simp [Act.put]) hS.out ?_
          apply Exists.intro
          refine And.intro (fun w' hS' => ?_) ?_
          · refine wpList_load_agg rfl 46 (.tmp 22) rfl (bd.add (k * 33)) rfl (outC y) _ (hS'.2.at HOK.out.2 HXY.out.2) Try.underlying46 rfl (by rw [outC_length HE.out.2]; exact infoOut) ?_
            clear hS'
            go_wp2
            exact ⟨trivial, rfl⟩
          refine pl_take (i := 8) 24 rfl rfl rfl (by kernel_rfl) (by kernel_rfl) (by kernel_rfl) (by simp [Act.put]) hS.out ?_
          apply Exists.intro
          refine And.intro (fun w' hS' => ?_) ?_
          · refine wpList_bin rfl .neq 46 46 (.tmp 19) (.tmp 23) rfl (.bool false) (eqGuard_agg _ _ _ _ _ _ _ (by kernel_rfl)) ((out_ne w' x y HE.out.1 HE.out.2).trans (by rw [QX.out])) ?_
            clear hS'
            go_wp2
            exact ⟨trivial, rfl⟩
          refine pl_done (by kernel_rfl) ?_
          have B1 : Hid (Below w.heap.size w wr.drew) := HB.out.drew
          have HT' := Lib.hid (take_step HXY.out.1 HXY.out.2 HT.out (by simpa [bne] using QX.out))
          go_wp2
          go_roundw
          case rel => exact ⟨B1.out, k + 1, HK.out, by go_num, HT'.out⟩
          case measure => simp only [RowKit.intOf]; have := HK.out; omega
        · have QX := Lib.hid hxy
          clear hxy
          go_wp2_with fail
          refine pl_start 9 rfl (fun w' => Rd w' 33 (.slice (some ad) N c0) N (l.flatMap outC) ∧ Rd w' 33 (.slice (some bd) N c1) N (m.flatMap outC)) (by kernel_rfl) ?_
          refine pl_take (i := 0) 16 rfl rfl rfl (by kernel_rfl) (by kernel_rfl) (by kernel_rfl) (by simp [Act.put]) hS.out ?_
          apply Exists.intro
          refine And.intro (fun w' hS' => ?_) ?_
          · go_wp2
            first
              | exact ⟨trivial, rfl⟩
              | exact rfl
          refine pl_take (i := 1) 17 rfl rfl rfl (by kernel_rfl) (by kernel_rfl) (by kernel_rfl) (by simp [Act.put]) hS.out ?_
          apply Exists.intro
          refine And.intro (fun w' hS' => ?_) ?_
          · go_wp2
            first
              | exact ⟨trivial, rfl⟩
              | exact rfl
          refine pl_take (i := 2) 18 rfl rfl rfl (by kernel_rfl) (by kernel_rfl) (by kernel_rfl) (by simp [Act.put]) hS.out ?_
          apply Exists.intro
          refine And.intro (fun w' hS' => ?_) ?_
          · clear hS'
            go_wp2
            exact ⟨trivial, rfl⟩
          refine pl_take (i := 3) 19 rfl rfl rfl (by kernel_rfl) (by kernel_rfl) (by kernel_rfl) (by simp [Act.put]) hS.out ?_
          apply Exists.intro
          refine And.intro (fun w' hS' => ?_) ?_
          · refine wpList_load_agg rfl 46 (.tmp 18) rfl (ad.add (k * 33)) rfl (outC x) _ (hS'.1.at HOK.out.1 HXY.out.1) Try.underlying46 rfl (by rw [outC_length HE.out.1]; exact infoOut) ?_
            clear hS'
            go_wp2
            exact ⟨trivial, rfl⟩
          refine pl_take (i := 4) 20 rfl rfl rfl (by kernel_rfl) (by kernel_rfl) (by kernel_rfl) (by simp [Act.put]) hS.out ?_
          apply Exists.intro
          refine And.intro (fun w' hS' => ?_) ?_
          · go_wp2
            first
              | exact ⟨trivial, rfl⟩
              | exact rfl
          refine pl_take (i := 5) 21 rfl rfl rfl (by kernel_rfl) (by kernel_rfl) (by kernel_rfl) (by simp [Act.put]) hS.out ?_
          apply Exists.intro
          refine And.intro (fun w' hS' => ?_) ?_
          · go_wp2
            first
              | exact ⟨trivial, rfl⟩
              | exact rfl
          refine pl_take (i := 6) 22 rfl rfl rfl (by kernel_rfl) (by kernel_rfl) (by kernel_rfl) (by simp [Act.put]) hS.out ?_
          apply Exists.intro
          refine And.intro (fun w' hS' => ?_) ?_
          · clear hS'
            go_wp2
            exact ⟨trivial, rfl⟩
          refine pl_take (i := 7) 23 rfl rfl rfl (by kernel_rfl) (by kernel_rfl) (by kernel_rfl) (by simp [Act.put]) hS.out ?_
          apply Exists.intro
          refine And.intro (fun w' hS' => ?_) ?_
          · refine wpList_load_agg rfl 46 (.tmp 22) rfl (bd.add (k * 33)) rfl (outC y) _ (hS'.2.at HOK.out.2 HXY.out.2) Try.underlying46 rfl (by rw [outC_length HE.out.2]; exact infoOut) ?_
            clear hS'
            go_wp2
            exact ⟨trivial, rfl⟩
          refine pl_take (i := 8) 24 rfl rfl rfl (by kernel_rfl) (by kernel_rfl) (by kernel_rfl) (by simp [Act.put]) hS.out ?_
          apply Exists.intro
          refine And.intro (fun w' hS' => ?_) ?_
          · refine wpList_bin rfl .neq 46 46 (.tmp 19) (.tmp 23) rfl (.bool true) (eqGuard_agg _ _ _ _ _ _ _ (by kernel_rfl)) ((out_ne w' x y HE.out.1 HE.out.2).trans (by rw [QX.out])) ?_
            clear hS'
            go_wp2
            exact ⟨trivial, rfl⟩
          refine pl_done (by kernel_rfl) ?_
          have B1 : Hid (Below w.heap.size w wr.drew) := HB.out.drew
          have hf : Hid (R = false) := Lib.hid (by
            rw [HR.out, decide_eq_false_iff_not]
            intro e
            have h1 := HXY.out.1
            rw [e, HXY.out.2] at h1
            have h2 := QX.out
            simp only [Option.some.injEq] at h1
            rw [h1] at h2
            simp at h2)
          go_wp2
          go_ret
          exact ⟨by rw [hf.out]; rfl, B1.out⟩
      · have ik : ¬ ((k : Int) < (N : Int)) := by omega
        have hkN : k = N := by omega
        have ht' : Hid (R = true) := Lib.hid (by
          have h1 := HT.out
          rw [List.take_of_length_le (by have := HN.out.1; omega), List.take_of_length_le (by have := HN.out.2; have := HM.out; omega)] at h1
          rw [HR.out, decide_eq_true h1])
        clear hkN
        go_wp2
        go_ret
        exact ⟨by rw [ht'.out]; rfl, HB.out⟩
  · have hf : Hid (R = false) := Lib.hid (by
      rw [hR, decide_eq_false_iff_not]
      intro e
      rw [e] at hN
      omega)
    rw [← hN, ← hM]
    have i1 : ¬ ((N : Int) = (M : Int)) := by omega
    clear hv hu hR hN hM hNM
    go_enter Try.func60, Try.ntmps60
    go_wp2
    go_ret
    exact ⟨by rw [hf.out]; rfl, Below.refl _ _⟩

set_option maxRecDepth 100000 in
set_option maxHeartbeats 1000000 in
theorem equal_byte (w : World) (v u : Value) (l m : List UInt8) (hv : Rd w 1 v l.length (bvs l)) (hu : Rd w 1 u m.length (bvs m)) :
    Calls Try.prog 63 #[v, u] w fun e w' => e = .returned (.bool (decide (l = m))) ∧ Below w.heap.size w w' := by
  obtain ⟨a0, c0, rfl⟩ := hv.slice
  obtain ⟨a1, c1, rfl⟩ := hu.slice
  obtain ⟨N, hN⟩ : ∃ N, N = l.length := ⟨_, rfl⟩
  obtain ⟨M, hM⟩ : ∃ M, M = m.length := ⟨_, rfl⟩
  obtain ⟨R, hR⟩ : ∃ R, R = decide (l = m) := ⟨_, rfl⟩
  rw [← hR]
  by_cases hNM : N = M
  · have HR := Lib.hid hR
    have HN := Lib.hid (And.intro hN hM)
    rw [← hN] at hv ⊢
    rw [← hM, ← hNM] at hu ⊢
    have HM := Lib.hid hNM
    have HV := Lib.hid hv
    have HU := Lib.hid hu
    have bN : (N : Int) ≤ maxLen := by
      have h1 : N ≤ maxLen := by
        have := hv.2
        rcases this with ⟨he, _⟩ | ⟨ad, c', he, h2, h3, _⟩
        · simp only [Value.slice.injEq] at he
          omega
        · simp only [Value.slice.injEq] at he
          omega
      omega
    have bN' : (N : Int) ≤ 9223372036854775807 := by unfold maxLen at bN; omega
    clear hR hN hM hNM hv hu bN
    go_enter Try.func63, Try.ntmps63
    go_wp2
    go_loopw [5, 13] (fun v5 v13 wr => Below w.heap.size w wr ∧ ∃ k : Nat, k ≤ N ∧ v13 = .int .i64 (k : Int) ∧ l.take k = m.take k)
      (fun _ v _ => N - (RowKit.intOf v).toNat)
    case atStart => exact ⟨Below.refl _ _, 0, by omega, rfl, rfl⟩
    case round =>
      obtain ⟨hb, k, hk, rfl, ht⟩ := hrel
      have HB := Lib.hid hb
      have HT := Lib.hid ht
      clear hb ht
      by_cases hlt : k < N
      · obtain ⟨x, hx⟩ : ∃ x, l[k]? = some x := ⟨_, List.getElem?_eq_getElem (by rw [← HN.out.1]; exact hlt)⟩
        obtain ⟨y, hy⟩ : ∃ y, m[k]? = some y := ⟨_, List.getElem?_eq_getElem (by rw [← HN.out.2, ← HM.out]; exact hlt)⟩
        obtain ⟨ad, c, he⟩ := rd_some HV.out (by omega)
        simp only [Value.slice.injEq, true_and] at he
        obtain ⟨rfl, rfl⟩ := he
        obtain ⟨bd, d, he⟩ := rd_some HU.out (by omega)
        simp only [Value.slice.injEq, true_and] at he
        obtain ⟨rfl, rfl⟩ := he
        have HXY := Lib.hid (And.intro hx hy)
        have HE := Lib.hid (And.intro trivial trivial)
        have ik : (k : Int) < (N : Int) := by omega
        have HK := Lib.hid hlt
        have hS : Hid (Rd wr.drew 1 (.slice (some ad) N c0) N (bvs l) ∧ Rd wr.drew 1 (.slice (some bd) N c1) N (bvs m)) := Lib.hid ⟨HV.out.fresh HB.out.drew, HU.out.fresh HB.out.drew⟩
        clear hx hy hlt hk
        cases hxy : (x != y)
        · have QX := Lib.hid hxy
          clear hxy
          go_wp2_with fail
          refine pl_start 9 rfl (fun w' => Rd w' 1 (.slice (some ad) N c0) N (bvs l) ∧ Rd w' 1 (.slice (some bd) N c1) N (bvs m)) (by kernel_rfl) ?_
          refine pl_take (i := 0) 16 rfl rfl rfl (by kernel_rfl) (by kernel_rfl) (by kernel_rfl) (by simp [Act.put]) hS.out ?_
          apply Exists.intro
          refine And.intro (fun w' hS' => ?_) ?_
          · go_wp2
            first
              | exact ⟨trivial, rfl⟩
              | exact rfl
          refine pl_take (i := 1) 17 rfl rfl rfl (by kernel_rfl) (by kernel_rfl) (by kernel_rfl) (by simp [Act.put]) hS.out ?_
          apply Exists.intro
          refine And.intro (fun w' hS' => ?_) ?_
          · go_wp2
            first
              | exact ⟨trivial, rfl⟩
              | exact rfl
          refine pl_take (i := 2) 18 rfl rfl rfl (by kernel_rfl) (by kernel_rfl) (by kernel_rfl) (by simp [Act.put]) hS.out ?_
          apply Exists.intro
          refine And.intro (fun w' hS' => ?_) ?_
          · clear hS'
            go_wp2
            exact ⟨trivial, rfl⟩
          refine pl_take (i := 3) 19 rfl rfl rfl (by kernel_rfl) (by kernel_rfl) (by kernel_rfl) (by simp [Act.put]) hS.out ?_
          apply Exists.intro
          refine And.intro (fun w' hS' => ?_) ?_
          · have hc := (hS'.1.byte HXY.out.1 : w'.cell? (ad.add k) = some (.int .u8 (x.toNat : Int)))
            clear hS'
            go_wp2
            exact ⟨trivial, rfl⟩
          refine pl_take (i := 4) 20 rfl rfl rfl (by kernel_rfl) (by kernel_rfl) (by kernel_rfl) (by simp [Act.put]) hS.out ?_
          apply Exists.intro
          refine And.intro (fun w' hS' => ?_) ?_
          · go_wp2
            first
              | exact ⟨trivial, rfl⟩
              | exact rfl
          refine pl_take (i := 5) 21 rfl rfl rfl (by kernel_rfl) (by kernel_rfl) (by kernel_rfl) (by simp [Act.put]) hS.out ?_
          apply Exists.intro
          refine And.intro (fun w' hS' => ?_) ?_
          · go_wp2
            first
              | exact ⟨trivial, rfl⟩
              | exact rfl
          refine pl_take (i := 6) 22 rfl rfl rfl (by kernel_rfl) (by kernel_rfl) (by kernel_rfl) (by simp [Act.put]) hS.out ?_
          apply Exists.intro
          refine And.intro (fun w' hS' => ?_) ?_
          · clear hS'
            go_wp2
            exact ⟨trivial, rfl⟩
          refine pl_take (i := 7) 23 rfl rfl rfl (by kernel_rfl) (by kernel_rfl) (by kernel_rfl) (by simp [Act.put]) hS.out ?_
          apply Exists.intro
          refine And.intro (fun w' hS' => ?_) ?_
          · have hc := (hS'.2.byte HXY.out.2 : w'.cell? (bd.add k) = some (.int .u8 (y.toNat : Int)))
            clear hS'
            go_wp2
            exact ⟨trivial, rfl⟩
          refine pl_take (i := 8) 24 rfl rfl rfl (by kernel_rfl) (by kernel_rfl) (by kernel_rfl) (by simp [Act.put]) hS.out ?_
          apply Exists.intro
          refine And.intro (fun w' hS' => ?_) ?_
          · refine wpList_bin rfl .neq 5 5 (.tmp 19) (.tmp 23) rfl (.bool false) (byte_guard _ _ _ _ _ _ _ _ _) ((byte_ne w' x y).trans (by rw [QX.out])) ?_
            clear hS'
            go_wp2
            exact ⟨trivial, rfl⟩
          refine pl_done (by kernel_rfl) ?_
          have B1 : Hid (Below w.heap.size w wr.drew) := HB.out.drew
          have HT' := Lib.hid (take_step HXY.out.1 HXY.out.2 HT.out (by simpa [bne] using QX.out))
          go_wp2
          go_roundw
          case rel => exact ⟨B1.out, k + 1, HK.out, by go_num, HT'.out⟩
          case measure => simp only [RowKit.intOf]; have := HK.out; omega
        · have QX := Lib.hid hxy
          clear hxy
          go_wp2_with fail
          refine pl_start 9 rfl (fun w' => Rd w' 1 (.slice (some ad) N c0) N (bvs l) ∧ Rd w' 1 (.slice (some bd) N c1) N (bvs m)) (by kernel_rfl) ?_
          refine pl_take (i := 0) 16 rfl rfl rfl (by kernel_rfl) (by kernel_rfl) (by kernel_rfl) (by simp [Act.put]) hS.out ?_
          apply Exists.intro
          refine And.intro (fun w' hS' => ?_) ?_
          · go_wp2
            first
              | exact ⟨trivial, rfl⟩
              | exact rfl
          refine pl_take (i := 1) 17 rfl rfl rfl (by kernel_rfl) (by kernel_rfl) (by kernel_rfl) (by simp [Act.put]) hS.out ?_
          apply Exists.intro
          refine And.intro (fun w' hS' => ?_) ?_
          · go_wp2
            first
              | exact ⟨trivial, rfl⟩
              | exact rfl
          refine pl_take (i := 2) 18 rfl rfl rfl (by kernel_rfl) (by kernel_rfl) (by kernel_rfl) (by simp [Act.put]) hS.out ?_
          apply Exists.intro
          refine And.intro (fun w' hS' => ?_) ?_
          · clear hS'
            go_wp2
            exact ⟨trivial, rfl⟩
          refine pl_take (i := 3) 19 rfl rfl rfl (by kernel_rfl) (by kernel_rfl) (by kernel_rfl) (by simp [Act.put]) hS.out ?_
          apply Exists.intro
          refine And.intro (fun w' hS' => ?_) ?_
          · have hc := (hS'.1.byte HXY.out.1 : w'.cell? (ad.add k) = some (.int .u8 (x.toNat : Int)))
            clear hS'
            go_wp2
            exact ⟨trivial, rfl⟩
          refine pl_take (i := 4) 20 rfl rfl rfl (by kernel_rfl) (by kernel_rfl) (by kernel_rfl) (by simp [Act.put]) hS.out ?_
          apply Exists.intro
          refine And.intro (fun w' hS' => ?_) ?_
          · go_wp2
            first
              | exact ⟨trivial, rfl⟩
              | exact rfl
          refine pl_take (i := 5) 21 rfl rfl rfl (by kernel_rfl) (by kernel_rfl) (by kernel_rfl) (by simp [Act.put]) hS.out ?_
          apply Exists.intro
          refine And.intro (fun w' hS' => ?_) ?_
          · go_wp2
            first
              | exact ⟨trivial, rfl⟩
              | exact rfl
          refine pl_take (i := 6) 22 rfl rfl rfl (by kernel_rfl) (by kernel_rfl) (by kernel_rfl) (by simp [Act.put]) hS.out ?_
          apply Exists.intro
          refine And.intro (fun w' hS' => ?_) ?_
          · clear hS'
            go_wp2
            exact ⟨trivial, rfl⟩
          refine pl_take (i := 7) 23 rfl rfl rfl (by kernel_rfl) (by kernel_rfl) (by kernel_rfl) (by simp [Act.put]) hS.out ?_
          apply Exists.intro
          refine And.intro (fun w' hS' => ?_) ?_
          · have hc := (hS'.2.byte HXY.out.2 : w'.cell? (bd.add k) = some (.int .u8 (y.toNat : Int)))
            clear hS'
            go_wp2
            exact ⟨trivial, rfl⟩
          refine pl_take (i := 8) 24 rfl rfl rfl (by kernel_rfl) (by kernel_rfl) (by kernel_rfl) (by simp [Act.put]) hS.out ?_
          apply Exists.intro
          refine And.intro (fun w' hS' => ?_) ?_
          · refine wpList_bin rfl .neq 5 5 (.tmp 19) (.tmp 23) rfl (.bool true) (byte_guard _ _ _ _ _ _ _ _ _) ((byte_ne w' x y).trans (by rw [QX.out])) ?_
            clear hS'
            go_wp2
            exact ⟨trivial, rfl⟩
          refine pl_done (by kernel_rfl) ?_
          have B1 : Hid (Below w.heap.size w wr.drew) := HB.out.drew
          have hf : Hid (R = false) := Lib.hid (by
            rw [HR.out, decide_eq_false_iff_not]
            intro e
            have h1 := HXY.out.1
            rw [e, HXY.out.2] at h1
            have h2 := QX.out
            simp only [Option.some.injEq] at h1
            rw [h1] at h2
            simp at h2)
          go_wp2
          go_ret
          exact ⟨by rw [hf.out]; rfl, B1.out⟩
      · have ik : ¬ ((k : Int) < (N : Int)) := by omega
        have hkN : k = N := by omega
        have ht' : Hid (R = true) := Lib.hid (by
          have h1 := HT.out
          rw [List.take_of_length_le (by have := HN.out.1; omega), List.take_of_length_le (by have := HN.out.2; have := HM.out; omega)] at h1
          rw [HR.out, decide_eq_true h1])
        clear hkN
        go_wp2
        go_ret
        exact ⟨by rw [ht'.out]; rfl, HB.out⟩
  · have hf : Hid (R = false) := Lib.hid (by
      rw [hR, decide_eq_false_iff_not]
      intro e
      rw [e] at hN
      omega)
    rw [← hN, ← hM]
    have i1 : ¬ ((N : Int) = (M : Int)) := by omega
    clear hv hu hR hN hM hNM
    go_enter Try.func63, Try.ntmps63
    go_wp2
    go_ret
    exact ⟨by rw [hf.out]; rfl, Below.refl _ _⟩

end Go.Proofs.Ytkbahhnjoidhcaa
