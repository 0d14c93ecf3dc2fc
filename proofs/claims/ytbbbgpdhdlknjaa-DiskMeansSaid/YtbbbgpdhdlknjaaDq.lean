/- Disks: bytes compared, steps copied: the walks. -/
import Derived.Test.YtbbbgpdhdlknjaaDo
namespace Go.Proofs.Ytbbbgpdhdlknjaa
set_option linter.unusedVariables false
set_option linter.unusedSimpArgs false
open Go.RowKit Go.Lib

theorem byte_ne (w : World) (x y : UInt8) : (binOp .neq 5 (.int .u8 (x.toNat : Int)) (.int .u8 (y.toNat : Int))).run Try.prog w = .ok (.bool (x != y)) w := by
  have e : ((x.toNat : Int) == (y.toNat : Int)) = (x == y) := by
    rw [Bool.eq_iff_iff]
    simp [← UInt8.toNat_inj]
    omega
  simp [binOp, Op.intCmp, bne, e]

theorem byte_guard (w : World) (op : BinOp) (x y : Operand) (k k' : IntKind) (a b : Int) (t : TypeId) : (eqGuard op t x y (.int k a) (.int k' b)).run Try.prog w = .ok () w := by
  cases op <;> rfl

theorem take_step {α : Type} {l m : List α} {k : Nat} {x y : α} (hx : l[k]? = some x) (hy : m[k]? = some y) (h : l.take k = m.take k) (hxy : x = y) : l.take (k + 1) = m.take (k + 1) := by
  rw [List.take_add_one, List.take_add_one, hx, hy, h, hxy]


theorem rd_some {w : World} {v : Value} {s n : Nat} {cs : List Value} (h : Rd w s v n cs) (h0 : 0 < n) : ∃ ad c, v = .slice (some ad) n c := by
  rcases h.2 with ⟨_, h1⟩ | ⟨ad, c, he, _⟩
  · omega
  · exact ⟨ad, c, he⟩

theorem Rd.byte {w : World} {ad : Addr} {n c : Nat} {l : Bs} (h : Rd w 1 (.slice (some ad) n c) n (bvs l)) {k : Nat} {x : UInt8} (hk : l[k]? = some x) : w.cell? (ad.add k) = some (.int .u8 (x.toNat : Int)) := by
  rcases h.2 with ⟨he, _⟩ | ⟨ad', c', he, _, _, hc⟩
  · cases he
  · simp only [Value.slice.injEq, Option.some.injEq] at he
    obtain ⟨rfl, _, _⟩ := he
    exact hc k _ (by rw [bvs, List.getElem?_map, hk]; rfl)


set_option maxRecDepth 100000 in
set_option maxHeartbeats 1000000 in
theorem equal_byte (w : World) (v u : Value) (l m : List UInt8) (hv : Rd w 1 v l.length (bvs l)) (hu : Rd w 1 u m.length (bvs m)) :
    Calls Try.prog 59 #[v, u] w fun e w' => e = .returned (.bool (decide (l = m))) ∧ Below w.heap.size w w' := by
  obtain ⟨a0, c0, rfl⟩ := hv.slice
  obtain ⟨a1, c1, rfl⟩ := hu.slice
  obtain ⟨N, hN⟩ : ∃ N, N = l.length := ⟨_, rfl⟩
  obtain ⟨M, hM⟩ : ∃ M, M = m.length := ⟨_, rfl⟩
  obtain ⟨R, hR⟩ : ∃ R, R = decide (l = m) := ⟨_, rfl⟩
  rw [← hR]
  by_cases hNM : N = M
  · have HR := Lib.hid hR
    have HN := Lib.hid (And.intro hN hM)
    rw [← hN] at hv ⊢
    rw [← hM, ← hNM] at hu ⊢
    have HM := Lib.hid hNM
    have HV := Lib.hid hv
    have HU := Lib.hid hu
    have bN : (N : Int) ≤ maxLen := by
      have h1 : N ≤ maxLen := by
        have := hv.2
        rcases this with ⟨he, _⟩ | ⟨ad, c', he, h2, h3, _⟩
        · simp only [Value.slice.injEq] at he
          omega
        · simp only [Value.slice.injEq] at he
          omega
      omega
    have bN' : (N : Int) ≤ 9223372036854775807 := by unfold maxLen at bN; omega
    clear hR hN hM hNM hv hu bN
    go_enter Try.func59, Try.ntmps59
    go_wp2
    go_loopw [5, 13] (fun v5 v13 wr => Below w.heap.size w wr ∧ ∃ k : Nat, k ≤ N ∧ v13 = .int .i64 (k : Int) ∧ l.take k = m.take k)
      (fun _ v _ => N - (RowKit.intOf v).toNat)
    case atStart => exact ⟨Below.refl _ _, 0, by omega, rfl, rfl⟩
    case round =>
      obtain ⟨hb, k, hk, rfl, ht⟩ := hrel
      have HB := Lib.hid hb
      have HT := Lib.hid ht
      clear hb ht
      by_cases hlt : k < N
      · obtain ⟨x, hx⟩ : ∃ x, l[k]? = some x := ⟨_, List.getElem?_eq_getElem (by rw [← HN.out.1]; exact hlt)⟩
        obtain ⟨y, hy⟩ : ∃ y, m[k]? = some y := ⟨_, List.getElem?_eq_getElem (by rw [← HN.out.2, ← HM.out]; exact hlt)⟩
        obtain ⟨ad, c, he⟩ := rd_some HV.out (by omega)
        simp only [Value.slice.injEq, true_and] at he
        obtain ⟨rfl, rfl⟩ := he
        obtain ⟨bd, d, he⟩ := rd_some HU.out (by omega)
        simp only [Value.slice.injEq, true_and] at he
        obtain ⟨rfl, rfl⟩ := he
        have HXY := Lib.hid (And.intro hx hy)
        have HE := Lib.hid (And.intro trivial trivial)
        have ik : (k : Int) < (N : Int) := by omega
        have HK := Lib.hid hlt
        have hS : Hid (Rd wr.drew 1 (.slice (some ad) N c0) N (bvs l) ∧ Rd wr.drew 1 (.slice (some bd) N c1) N (bvs m)) := Lib.hid ⟨HV.out.fresh HB.out.drew, HU.out.fresh HB.out.drew⟩
        clear hx hy hlt hk
        cases hxy : (x != y)
        · have QX := Lib.hid hxy
          clear hxy
          go_wp2_with fail
          refine pl_start 9 rfl (fun w' => Rd w' 1 (.slice (some ad) N c0) N (bvs l) ∧ Rd w' 1 (.slice (some bd) N c1) N (bvs m)) (by kernel_rfl) ?_
          refine pl_take (i := 0) 16 rfl rfl rfl (by kernel_rfl) (by kernel_rfl) (by kernel_rfl) (by simp [Act.put]) hS.out ?_
          apply Exists.intro
          refine And.intro (fun w' hS' => ?_) ?_
          · go_wp2
            first
              | exact ⟨trivial, rfl⟩
              | exact rfl
          refine pl_take (i := 1) 17 rfl rfl rfl (by kernel_rfl) (by kernel_rfl) (by kernel_rfl) (by simp [Act.put]) hS.out ?_
          apply Exists.intro
          refine And.intro (fun w' hS' => ?_) ?_
          · go_wp2
            first
              | exact ⟨trivial, rfl⟩
              | exact rfl
          refine pl_take (i := 2) 18 rfl rfl rfl (by kernel_rfl) (by kernel_rfl) (by kernel_rfl) (by simp [Act.put]) hS.out ?_
          apply Exists.intro
          refine And.intro (fun w' hS' => ?_) ?_
          · clear hS'
            go_wp2
            exact ⟨trivial, rfl⟩
          refine pl_take (i := 3) 19 rfl rfl rfl (by kernel_rfl) (by kernel_rfl) (by kernel_rfl) (by simp [Act.put]) hS.out ?_
          apply Exists.intro
          refine And.intro (fun w' hS' => ?_) ?_
          · have hc := (hS'.1.byte HXY.out.1 : w'.cell? (ad.add k) = some (.int .u8 (x.toNat : Int)))
            clear hS'
            go_wp2
            exact ⟨trivial, rfl⟩
          refine pl_take (i := 4) 20 rfl rfl rfl (by kernel_rfl) (by kernel_rfl) (by kernel_rfl) (by simp [Act.put]) hS.out ?_
          apply Exists.intro
          refine And.intro (fun w' hS' => ?_) ?_
          · go_wp2
            first
              | exact ⟨trivial, rfl⟩
              | exact rfl
          refine pl_take (i := 5) 21 rfl rfl rfl (by kernel_rfl) (by kernel_rfl) (by kernel_rfl) (by simp [Act.put]) hS.out ?_
          apply Exists.intro
          refine And.intro (fun w' hS' => ?_) ?_
          · go_wp2
            first
              | exact ⟨trivial, rfl⟩
              | exact rfl
          refine pl_take (i := 6) 22 rfl rfl rfl (by kernel_rfl) (by kernel_rfl) (by kernel_rfl) (by simp [Act.put]) hS.out ?_
          apply Exists.intro
          refine And.intro (fun w' hS' => ?_) ?_
          · clear hS'
            go_wp2
            exact ⟨trivial, rfl⟩
          refine pl_take (i := 7) 23 rfl rfl rfl (by kernel_rfl) (by kernel_rfl) (by kernel_rfl) (by simp [Act.put]) hS.out ?_
          apply Exists.intro
          refine And.intro (fun w' hS' => ?_) ?_
          · have hc := (hS'.2.byte HXY.out.2 : w'.cell? (bd.add k) = some (.int .u8 (y.toNat : Int)))
            clear hS'
            go_wp2
            exact ⟨trivial, rfl⟩
          refine pl_take (i := 8) 24 rfl rfl rfl (by kernel_rfl) (by kernel_rfl) (by kernel_rfl) (by simp [Act.put]) hS.out ?_
          apply Exists.intro
          refine And.intro (fun w' hS' => ?_) ?_
          · refine wpList_bin rfl .neq 5 5 (.tmp 19) (.tmp 23) rfl (.bool false) (byte_guard _ _ _ _ _ _ _ _ _) ((byte_ne w' x y).trans (by rw [QX.out])) ?_
            clear hS'
            go_wp2
            exact ⟨trivial, rfl⟩
          refine pl_done (by kernel_rfl) ?_
          have B1 : Hid (Below w.heap.size w wr.drew) := HB.out.drew
          have HT' := Lib.hid (take_step HXY.out.1 HXY.out.2 HT.out (by simpa [bne] using QX.out))
          go_wp2
          go_roundw
          case rel => exact ⟨B1.out, k + 1, HK.out, by go_num, HT'.out⟩
          case measure => simp only [RowKit.intOf]; have := HK.out; omega
        · have QX := Lib.hid hxy
          clear hxy
          go_wp2_with fail
          refine pl_start 9 rfl (fun w' => Rd w' 1 (.slice (some ad) N c0) N (bvs l) ∧ Rd w' 1 (.slice (some bd) N c1) N (bvs m)) (by kernel_rfl) ?_
          refine pl_take (i := 0) 16 rfl rfl rfl (by kernel_rfl) (by kernel_rfl) (by kernel_rfl) (by simp [Act.put]) hS.out ?_
          apply Exists.intro
          refine And.intro (fun w' hS' => ?_) ?_
          · go_wp2
            first
              | exact ⟨trivial, rfl⟩
              | exact rfl
          refine pl_take (i := 1) 17 rfl rfl rfl (by kernel_rfl) (by kernel_rfl) (by kernel_rfl) (by simp [Act.put]) hS.out ?_
          apply Exists.intro
          refine And.intro (fun w' hS' => ?_) ?_
          · go_wp2
            first
              | exact ⟨trivial, rfl⟩
              | exact rfl
          refine pl_take (i := 2) 18 rfl rfl rfl (by kernel_rfl) (by kernel_rfl) (by kernel_rfl) (by simp [Act.put]) hS.out ?_
          apply Exists.intro
          refine And.intro (fun w' hS' => ?_) ?_
          · clear hS'
            go_wp2
            exact ⟨trivial, rfl⟩
          refine pl_take (i := 3) 19 rfl rfl rfl (by kernel_rfl) (by kernel_rfl) (by kernel_rfl) (by simp [Act.put]) hS.out ?_
          apply Exists.intro
          refine And.intro (fun w' hS' => ?_) ?_
          · have hc := (hS'.1.byte HXY.out.1 : w'.cell? (ad.add k) = some (.int .u8 (x.toNat : Int)))
            clear hS'
            go_wp2
            exact ⟨trivial, rfl⟩
          refine pl_take (i := 4) 20 rfl rfl rfl (by kernel_rfl) (by kernel_rfl) (by kernel_rfl) (by simp [Act.put]) hS.out ?_
          apply Exists.intro
          refine And.intro (fun w' hS' => ?_) ?_
          · go_wp2
            first
              | exact ⟨trivial, rfl⟩
              | exact rfl
          refine pl_take (i := 5) 21 rfl rfl rfl (by kernel_rfl) (by kernel_rfl) (by kernel_rfl) (by simp [Act.put]) hS.out ?_
          apply Exists.intro
          refine And.intro (fun w' hS' => ?_) ?_
          · go_wp2
            first
              | exact ⟨trivial, rfl⟩
              | exact rfl
          refine pl_take (i := 6) 22 rfl rfl rfl (by kernel_rfl) (by kernel_rfl) (by kernel_rfl) (by simp [Act.put]) hS.out ?_
          apply Exists.intro
          refine And.intro (fun w' hS' => ?_) ?_
          · clear hS'
            go_wp2
            exact ⟨trivial, rfl⟩
          refine pl_take (i := 7) 23 rfl rfl rfl (by kernel_rfl) (by kernel_rfl) (by kernel_rfl) (by simp [Act.put]) hS.out ?_
          apply Exists.intro
          refine And.intro (fun w' hS' => ?_) ?_
          · have hc := (hS'.2.byte HXY.out.2 : w'.cell? (bd.add k) = some (.int .u8 (y.toNat : Int)))
            clear hS'
            go_wp2
            exact ⟨trivial, rfl⟩
          refine pl_take (i := 8) 24 rfl rfl rfl (by kernel_rfl) (by kernel_rfl) (by kernel_rfl) (by simp [Act.put]) hS.out ?_
          apply Exists.intro
          refine And.intro (fun w' hS' => ?_) ?_
          · refine wpList_bin rfl .neq 5 5 (.tmp 19) (.tmp 23) rfl (.bool true) (byte_guard _ _ _ _ _ _ _ _ _) ((byte_ne w' x y).trans (by rw [QX.out])) ?_
            clear hS'
            go_wp2
            exact ⟨trivial, rfl⟩
          refine pl_done (by kernel_rfl) ?_
          have B1 : Hid (Below w.heap.size w wr.drew) := HB.out.drew
          have hf : Hid (R = false) := Lib.hid (by
            rw [HR.out, decide_eq_false_iff_not]
            intro e
            have h1 := HXY.out.1
            rw [e, HXY.out.2] at h1
            have h2 := QX.out
            simp only [Option.some.injEq] at h1
            rw [h1] at h2
            simp at h2)
          go_wp2
          go_ret
          exact ⟨by rw [hf.out]; rfl, B1.out⟩
      · have ik : ¬ ((k : Int) < (N : Int)) := by omega
        have hkN : k = N := by omega
        have ht' : Hid (R = true) := Lib.hid (by
          have h1 := HT.out
          rw [List.take_of_length_le (by have := HN.out.1; omega), List.take_of_length_le (by have := HN.out.2; have := HM.out; omega)] at h1
          rw [HR.out, decide_eq_true h1])
        clear hkN
        go_wp2
        go_ret
        exact ⟨by rw [ht'.out]; rfl, HB.out⟩
  · have hf : Hid (R = false) := Lib.hid (by
      rw [hR, decide_eq_false_iff_not]
      intro e
      rw [e] at hN
      omega)
    rw [← hN, ← hM]
    have i1 : ¬ ((N : Int) = (M : Int)) := by omega
    clear hv hu hR hN hM hNM
    go_enter Try.func59, Try.ntmps59
    go_wp2
    go_ret
    exact ⟨by rw [hf.out]; rfl, Below.refl _ _⟩

theorem infoC_step : (Try.prog.info? 78).map (fun i => (i.zero, i.size, i.bytes)) = some (some (.agg #[.nilFunc, .int .i64 0, .slice none 0 0]), 3, 40) := by kernel_rfl

set_option maxRecDepth 100000 in
set_option maxHeartbeats 1000000 in
theorem clone_step (w : World) (v : Value) (n : Nat) (cs : List Value) (hr : Rd w 3 v n cs) (h1 : ∀ u ∈ cs, u.oneCell' = true) (hn : n ≤ 100000000) :
    Calls Try.prog 58 #[v] w fun e w' => ∃ v', e = .returned v' ∧ w'.ownsRow w.heap.size 78 3 v' n cs ∧ Below w.heap.size w w' := by
  obtain ⟨i0, hi, hz0, hz1, hz2⟩ := info_parts infoC_step
  rcases hr.2 with ⟨rfl, rfl⟩ | ⟨ad, c, rfl, hnc, hcm, _⟩
  · have hcs : cs = [] := List.eq_nil_of_length_eq_zero (by simpa using hr.1)
    subst hcs
    clear hr h1 hn
    have hnil := fun u : World => Lib.run_eql_slice_nil (P := Try.prog) u 63 _ none 0 0 0 0 Try.underlying63
    go_enter Try.func58, Try.ntmps58
    go_wp2
    go_ret
    exact ⟨_, rfl, World.ownsRow_nil _ _ _ _, Below.refl _ _⟩
  · have HR := Lib.hid hr
    have H1 := Lib.hid h1
    have HC := Lib.hid hn
    clear hr h1 hn hnc hcm
    have hnil := fun u : World => Lib.run_eql_slice_nil (P := Try.prog) u 63 _ (some ad) n c 0 0 Try.underlying63
    go_enter Try.func58, Try.ntmps58
    go_wp2_with (at_builtin; apply Stop.mk)
    refine Stop.go ?_
    have b1 : Below w.heap.size w (w.alloc (.cells #[] 78)) := (Below.refl _ w).alloc (Nat.le_refl _) _
    have ho : (w.alloc (.cells #[] 78)).ownsRow w.heap.size 78 3 (.slice (some ⟨w.heap.size, 0, none⟩) 0 0) 0 [] := by
      refine ⟨by simp, .inr ⟨w.heap.size, 0, #[], rfl, Nat.le_refl _, heap_alloc_new w _, Nat.le_refl _, by unfold maxLen; omega, by simp, by simp⟩⟩
    refine wpList_append_rd _ rfl (.tmp 5) (.tmp 6) 63 rfl w.heap.size 78 i0 _ 3 40 Try.underlying63 hi hz0 hz1 hz2 (by first | rfl | simp [Value.cells]) (by decide) (.slice (some ⟨w.heap.size, 0, none⟩) 0 0) 0 [] rfl ho (.slice (some ad) n c) n cs rfl (HR.out.fresh b1) H1.out (by unfold maxLen; have := HC.out; omega) (by have := HC.out; omega) b1.size ?_
    intro v' w' o1 g1 _ _
    have b2 : Below w.heap.size w w' := b1.grown g1 b1.size (fun k hk => by simp [Value.ownBlock] at hk; omega)
    have O2 := Lib.hid o1
    have B2 := Lib.hid b2
    clear o1 g1 b1 b2 ho
    go_wp2
    go_ret
    exact ⟨_, rfl, by simpa using O2.out, B2.out⟩

theorem cell_kept {w w' : World} {a : Addr} {v : Value} (h : w.cell? a = some v) (hb : Below w.heap.size w w') : w'.cell? a = some v := by
  have hlt : a.block < w.heap.size := by
    rcases Nat.lt_or_ge a.block w.heap.size with h' | h'
    · exact h'
    · simp [World.cell?, Array.getElem?_eq_none h'] at h
  unfold World.cell? at h ⊢
  rw [hb.block a.block hlt]
  exact h

end Go.Proofs.Ytbbbgpdhdlknjaa
