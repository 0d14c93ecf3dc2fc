/- Disks: the document's disk: the fuse, a new one: the walks. -/
import Derived.Test.YtbbbgpdhdlknjaaEb
namespace Go.Proofs.Ytbbbgpdhdlknjaa
set_option linter.unusedVariables false
set_option linter.unusedSimpArgs false
open Go.RowKit Go.Lib

theorem run_index16 (w : World) (ls : List Value) (i : Nat) (u : Value) (hi : i < 16) (hu : ls[i]? = some u) : (Instr.index 38 (.agg ls.toArray) (.int .i64 (i : Int))).run Try.prog w = .ok u w := by
  have hn : (0 : Int) ≤ (i : Int) ∧ (i : Int) < ((16 : Nat) : Int) := by omega
  simp [Instr.index, run_underlying Try.underlying38, asIntOf, hn, go_sem]
  rw [if_pos hi, hu]
  rfl

/-- The document's fuse. -/
def rf (k : Dk) : Int := if k.armed then k.fuse else -1

/-- The document's disk is as the other one. -/
def RK (w : World) (G : Nat) (pv : Value) (k : Dk) : Prop := RkAt w G pv k.set k.wait (rf k) k.dead

def PostR (G : Nat) (pv : Value) (w : World) (k' : Dk) (e : Ending) (w' : World) : Prop := (∃ r : Int, e = .returned (.int .i64 r)) ∧ ∃ pv', RK w' G pv' k' ∧ Mv G G pv w w' ∧ Grew w pv pv'

theorem RK.fresh {w w' : World} {G : Nat} {pv : Value} {k : Dk} (h : RK w G pv k) (hb : Below w.heap.size w w') : RK w' G pv k := RkAt.fresh h hb

theorem PostR.same {G : Nat} {pv : Value} {w w' : World} {k : Dk} {r : Int} (h : RK w G pv k) (hb : Below w.heap.size w w') : PostR G pv w k (.returned (.int .i64 r)) w' :=
  ⟨⟨r, rfl⟩, pv, h.fresh hb, Mv.fresh hb, fun j hj => .inl hj⟩

theorem PostR.behind {G : Nat} {pv : Value} {w w1 w' : World} {k : Dk} {e : Ending} (hb : Below w.heap.size w w1) (h : PostR G pv w1 k e w') : PostR G pv w k e w' := by
  obtain ⟨he, pv', d, m, g⟩ := h
  exact ⟨he, pv', d, (Mv.fresh hb).tr' m, fun j hj => (g j hj).imp id (fun h => Nat.le_trans hb.size h)⟩

theorem rk_setWait {ls : List Value} {pv pv' : Value} {f : Int} {d : Bool} (h : ls.length = 16) : (ls ++ [pv, .int .i64 f, .bool d]).set 16 pv' = ls ++ [pv', .int .i64 f, .bool d] := by
  rw [List.set_append_right _ _ (by omega), h]; rfl
theorem rk_setFuse {ls : List Value} {pv : Value} {f f' : Int} {d : Bool} (h : ls.length = 16) : (ls ++ [pv, .int .i64 f, .bool d]).set 17 (.int .i64 f') = ls ++ [pv, .int .i64 f', .bool d] := by
  rw [List.set_append_right _ _ (by omega), h]; rfl
theorem rk_setDead {ls : List Value} {pv : Value} {f : Int} {d d' : Bool} (h : ls.length = 16) : (ls ++ [pv, .int .i64 f, .bool d]).set 18 (.bool d') = ls ++ [pv, .int .i64 f, .bool d'] := by
  rw [List.set_append_right _ _ (by omega), h]; rfl

theorem RkV.disk {w w' : World} {G : Nat} {ls : List Value} {pv : Value} {css : List (List Value)} {set : List Bs} {wait : List St} {f f' : Int} {d d' : Bool} (h : RkV w G ls pv css set wait f d) (hc : CB w' 41 G (ls ++ [pv, .int .i64 f', .bool d'])) (ho : Only G w w') : RkV w' G ls pv css set wait f' d' := by
  have hk : Kt [41] w w' := Kt.only ho h.cr.tag (by simp)
  exact ⟨hc, h.ll.kt hk (by decide), h.wt.kt hk (by decide), h.wl, fun i x cs hx hcs => (h.ws i x cs hx hcs).kt hk (by decide)⟩

theorem RkV.len {w : World} {G : Nat} {ls : List Value} {pv : Value} {css : List (List Value)} {set : List Bs} {wait : List St} {f : Int} {d : Bool} (h : RkV w G ls pv css set wait f d) : (ls ++ [pv, .int .i64 f, .bool d]).length = 19 := by
  rw [List.length_append, h.ll.1]; rfl

/-- A step more waits. -/
theorem RkV.waits {w w' w'' : World} {G : Nat} {ls : List Value} {pv v' : Value} {css : List (List Value)} {set : List Bs} {wait : List St} {f : Int} {d : Bool} {cs : List Value} {x : St} (h : RkV w G ls pv css set wait f d) (g : w.grownBy w' pv.ownBlock)
    (hv : VwS w' 83 4 v' (wait.length + 1) (css.flatten ++ cs)) (hc : CB w'' 41 G ((ls ++ [pv, .int .i64 f, .bool d]).set 16 v')) (ho : Only G w' w'') (hs : PtC w cs x) :
    RkV w'' G ls v' (css ++ [cs]) set (wait ++ [x]) f d := by
  have k1 : Kt [83] w w' := Kt.grown g (fun j hj => h.wt.tag j hj) (by simp)
  have td : Tag w' G 41 := (h.cr.kt k1 (by decide)).tag
  have k2 : Kt [41] w' w'' := Kt.only ho td (by simp)
  rw [rk_setWait h.ll.1] at hc
  refine ⟨hc, (h.ll.kt k1 (by decide)).kt k2 (by decide), ?_, by simp [h.wl], fun i y c hy hcc => ?_⟩
  · have := hv.kt k2 (by decide)
    simpa using this
  · have hkt : ∀ {c y}, PtC w c y → PtC w'' c y := fun q => (q.kt k1 (by decide)).kt k2 (by decide)
    by_cases hi : i < wait.length
    · rw [List.getElem?_append_left hi] at hy
      rw [List.getElem?_append_left (by rw [h.wl]; exact hi)] at hcc
      exact hkt (h.ws i y c hy hcc)
    · have hi2 : i < (wait ++ [x]).length := (List.getElem?_eq_some_iff.1 hy).1
      have e : i = wait.length := by simp at hi2; omega
      subst e
      rw [List.getElem?_concat_length] at hy
      rw [← h.wl, List.getElem?_concat_length] at hcc
      cases hy; cases hcc
      exact hkt hs

def rnewC : List Value := noLogs ++ [.slice none 0 0, .int .i64 (-1), .bool false]
def fuseK (k : Dk) (n : Int) : Int × Dk := if n < 0 then (2, k) else (0, { k with fuse := n, armed := true })

set_option maxRecDepth 100000 in
theorem rnew_any (w : World) : Calls Try.prog 10 #[] w fun e w' => e = .returned (.pointer (some ⟨w.heap.size, 0, none⟩)) ∧ RK w' w.heap.size (.slice none 0 0) newK ∧ Below w.heap.size w w' := by
  go_enter Try.func10, Try.ntmps10
  go_wp2
  obtain ⟨w1, h1, k1, b1, s1⟩ := alloc_cb w 41 rnewC
  go_ret
  change _ ∧ RK (w.alloc (.cells rnewC.toArray 41)) _ _ _ ∧ Below w.heap.size w (w.alloc (.cells rnewC.toArray 41))
  rw [← h1]
  exact ⟨rfl, ⟨noLogs, [], k1, Lg.none _, VwS.nil _ _ _, rfl, fun i x cs hx _ => by simp [newK] at hx⟩, b1⟩

set_option maxHeartbeats 1000000 in
theorem rburn_any (w : World) (G : Nat) (pv : Value) (k : Dk) (h : RK w G pv k) (hf : 0 ≤ k.fuse) (hf' : k.fuse ≤ 9223372036854775807) :
    Calls Try.prog 63 #[.pointer (some ⟨G, 0, none⟩)] w fun e w' => e = .returned (.int .i64 (burnK k).1) ∧ RK w' G pv (burnK k).2 ∧ Mv G G pv w w' := by
  obtain ⟨ls, css, h⟩ := h
  have h3 := h.cr.cell 17 _ (h.cell 1)
  have h4 := h.cr.cell 18 _ (h.cell 2)
  have H := Lib.hid h
  clear h
  obtain ⟨set, now, wait, f, a, d⟩ := k
  simp only [rf] at h3 h4 H
  dsimp only at hf hf'
  cases d
  case true =>
    clear h3
    go_enter Try.func63, Try.ntmps63
    go_wp2
    go_ret
    exact ⟨rfl, ⟨_, _, H.out⟩, Mv.refl _ _ _ _⟩
  case false =>
    cases a
    case false =>
      simp only [Bool.false_eq_true, if_false] at h3
      go_enter Try.func63, Try.ntmps63
      go_wp2
      go_ret
      exact ⟨rfl, ⟨_, _, H.out⟩, Mv.refl _ _ _ _⟩
    case true =>
      simp only [if_true] at h3 H
      by_cases hz : f = 0
      · subst hz
        go_enter Try.func63, Try.ntmps63
        go_wp2_with (with_reducible refine stopStore 4 ?_)
        refine Stop.go ?_
        refine wpList_store_cell rfl 4 (.tmp 14) (.const (.bool true)) rfl G 18 41 rfl _ (.bool true) rfl rfl H.out.cr (by rw [H.out.len]; omega) infoBool ?_
        intro w8 k8 o8
        rw [rk_setDead H.out.ll.1] at k8
        have K8 := Lib.hid (H.out.disk k8 o8)
        have O8 := Lib.hid o8
        clear k8 o8 h3 h4
        go_wp2
        go_ret
        exact ⟨rfl, ⟨_, _, K8.out⟩, Mv.disk O8.out⟩
      · have hp : 0 < f := by omega
        go_enter Try.func63, Try.ntmps63
        go_wp2_with (with_reducible refine stopStore 3 ?_)
        refine Stop.go ?_
        refine wpList_store_cell rfl 3 (.tmp 26) (.tmp 24) rfl G 17 41 rfl _ (.int .i64 (f - 1)) rfl rfl H.out.cr (by rw [H.out.len]; omega) infoInt ?_
        intro w8 k8 o8
        rw [rk_setFuse H.out.ll.1] at k8
        have K8 := Lib.hid (H.out.disk k8 o8)
        have O8 := Lib.hid o8
        clear k8 o8 h3 h4
        go_wp2
        go_ret
        have e1 : burnK ⟨set, now, wait, f, true, false⟩ = (0, ⟨set, now, wait, f - 1, true, false⟩) := by simp [burnK, hz]
        rw [e1]
        exact ⟨rfl, ⟨_, _, K8.out⟩, Mv.disk O8.out⟩

theorem rfuse_any (w : World) (G : Nat) (pv : Value) (k : Dk) (n : Int) (h : RK w G pv k) :
    Calls Try.prog 36 #[.pointer (some ⟨G, 0, none⟩), .int .i64 n] w (PostR G pv w (fuseK k n).2) := by
  unfold fuseK
  by_cases hn : n < 0
  · rw [if_pos hn]
    have HH := Lib.hid h
    clear h
    go_enter Try.func36, Try.ntmps36
    go_wp2
    go_ret
    exact PostR.same HH.out (Below.refl _ _)
  · rw [if_neg hn]
    obtain ⟨ls, css, h⟩ := h
    have H := Lib.hid h
    clear h
    have hn' : (decide (n < 0)) = false := by simpa using hn
    go_enter Try.func36, Try.ntmps36
    go_wp2_with (with_reducible refine stopStore 3 ?_)
    refine Stop.go ?_
    refine wpList_store_cell rfl 3 (.tmp 10) (.tmp 8) rfl G 17 41 rfl _ (.int .i64 n) rfl rfl H.out.cr (by rw [H.out.len]; omega) infoInt ?_
    intro w8 k8 o8
    rw [rk_setFuse H.out.ll.1] at k8
    have K8 := Lib.hid (H.out.disk k8 o8)
    have O8 := Lib.hid o8
    clear k8 o8
    go_wp2
    go_ret
    exact ⟨⟨0, rfl⟩, pv, ⟨_, _, K8.out⟩, Mv.disk O8.out, fun j hj => .inl hj⟩

end Go.Proofs.Ytbbbgpdhdlknjaa
