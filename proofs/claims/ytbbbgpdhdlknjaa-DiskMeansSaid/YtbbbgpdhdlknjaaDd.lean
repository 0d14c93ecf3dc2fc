/- Disks: is it there, is there such a log, modulo, the fuse, copies of bytes: the walks. -/
import Derived.Test.YtbbbgpdhdlknjaaDc
import Derived.Lib.SliceRun
namespace Go.Proofs.Ytbbbgpdhdlknjaa
set_option linter.unusedVariables false
set_option linter.unusedSimpArgs false
open Go.RowKit Go.Lib

theorem _root_.Go.RowKit.Below.tr {u v w : World} (h : Below u.heap.size u v) (g : Below v.heap.size v w) : Below u.heap.size u w := h.trans (g.mono h.size)

theorem infoC_byte : (Try.prog.info? 5).map (fun i => (i.zero, i.size, i.bytes)) = some (some (.int .u8 0), 1, 1) := by kernel_rfl

set_option maxRecDepth 100000 in
set_option maxHeartbeats 1000000 in
theorem clone_byte0 [Inhabited (Option Nat)] (w : World) (v : Value) (n : Nat) (cs : List Value) (hr : Rd w 1 v n cs) (h1 : ∀ u ∈ cs, u.oneCell' = true) (hn : n ≤ 100000000) :
    Calls Try.prog 43 #[v] w fun e w' => ∃ v', e = .returned v' ∧ w'.ownsRow w.heap.size 5 1 v' n cs ∧ Below w.heap.size w w' := by
  obtain ⟨i0, hi, hz0, hz1, hz2⟩ := info_parts infoC_byte
  rcases hr.2 with ⟨rfl, rfl⟩ | ⟨ad, c, rfl, hnc, hcm, _⟩
  · have hcs : cs = [] := List.eq_nil_of_length_eq_zero (by simpa using hr.1)
    subst hcs
    clear hr h1 hn
    have hnil := fun u : World => Lib.run_eql_slice_nil (P := Try.prog) u 29 _ none 0 0 0 0 Try.underlying29
    go_enter Try.func43, Try.ntmps43
    go_wp2
    go_ret
    exact ⟨_, rfl, World.ownsRow_nil _ _ _ _, Below.refl _ _⟩
  · have HR := Lib.hid hr
    have H1 := Lib.hid h1
    have HC := Lib.hid hn
    clear hr h1 hn hnc hcm
    have hnil := fun u : World => Lib.run_eql_slice_nil (P := Try.prog) u 29 _ (some ad) n c 0 0 Try.underlying29
    go_enter Try.func43, Try.ntmps43
    go_wp2_with (at_builtin; apply Stop.mk)
    refine Stop.go ?_
    have b1 : Below w.heap.size w (w.alloc (.cells #[] 5)) := (Below.refl _ w).alloc (Nat.le_refl _) _
    have ho : (w.alloc (.cells #[] 5)).ownsRow w.heap.size 5 1 (.slice (some ⟨w.heap.size, 0, none⟩) 0 0) 0 [] := by
      refine ⟨by simp, .inr ⟨w.heap.size, 0, #[], rfl, Nat.le_refl _, heap_alloc_new w _, Nat.le_refl _, by unfold maxLen; omega, by simp, by simp⟩⟩
    refine wpList_append_rd _ rfl (.tmp 5) (.tmp 6) 29 rfl w.heap.size 5 i0 _ 1 1 Try.underlying29 hi hz0 hz1 hz2 (by first | rfl | simp [Value.cells]) (by decide) (.slice (some ⟨w.heap.size, 0, none⟩) 0 0) 0 [] rfl ho (.slice (some ad) n c) n cs rfl (HR.out.fresh b1) H1.out (by unfold maxLen; have := HC.out; omega) (by have := HC.out; omega) b1.size ?_
    intro v' w' o1 g1 _ _
    have b2 : Below w.heap.size w w' := b1.grown g1 b1.size (fun k hk => by simp [Value.ownBlock] at hk; omega)
    have O2 := Lib.hid o1
    have B2 := Lib.hid b2
    clear o1 g1 b1 b2 ho
    go_wp2
    go_ret
    exact ⟨_, rfl, by simpa using O2.out, B2.out⟩


theorem clone_any [Inhabited (Option Nat)] (w : World) (v : Value) (b : Bs) (hr : RdU w v b) (hn : b.length ≤ 100000000) :
    Calls Try.prog 43 #[v] w fun e w' => ∃ v', e = .returned v' ∧ w'.ownsRow w.heap.size 5 1 v' b.length (bvs b) ∧ Below w.heap.size w w' :=
  clone_byte0 w v b.length (bvs b) hr.1 (bvs_one _) hn

/-- The disk's own cells turned. -/
theorem DkV.disk [Inhabited (Option Nat)] {w w' : World} {D S : Nat} {vs ns : List Value} {wv : Value} {css : List (List Value)} {k k' : Dk} (h : DkV w D S vs ns wv css k) (hc : CB w' 65 D (dkC S ns wv k'.fuse k'.armed k'.dead)) (ho : Only D w w')
    (h1 : k'.set = k.set := by rfl) (h2 : k'.now = k.now := by rfl) (h3 : k'.wait = k.wait := by rfl) : DkV w' D S vs ns wv css k' := by
  have hk : Kt [65] w w' := Kt.only ho h.cd.tag (by simp)
  obtain ⟨a, b, c, d, e, f, g⟩ := h
  exact ⟨hc, b.kt hk (by decide), by rw [h1]; exact c.kt hk (by decide), by rw [h2]; exact d.kt hk (by decide), by rw [h3]; exact e.kt hk (by decide), by rw [h3]; exact f, fun i x cs hx hc => (g i x cs (by rw [← h3]; exact hx) hc).kt hk (by decide) (by decide) (by decide)⟩

/-- A disk's block, of which the first cell says whether it is there. -/
theorem there_none (w : World) : Calls Try.prog 39 #[.pointer none] w fun e w' => e = .returned (.bool false) ∧ w = w' := by
  go_enter Try.func39, Try.ntmps39
  go_wp2
  go_ret
  exact ⟨rfl, rfl⟩

theorem there_zero (w : World) (D : Nat) (cs : List Value) (h : CB w 65 D cs) (h0 : cs[0]? = some (.pointer none)) :
    Calls Try.prog 39 #[.pointer (some ⟨D, 0, none⟩)] w fun e w' => e = .returned (.bool false) ∧ w = w' := by
  have hc := h.cell 0 _ h0
  clear h h0
  go_enter Try.func39, Try.ntmps39
  go_wp2
  go_ret
  exact ⟨rfl, rfl⟩

theorem there_disk (w : World) (D S : Nat) (cs : List Value) (h : CB w 65 D cs) (h0 : cs[0]? = some (.pointer (some ⟨S, 0, none⟩))) :
    Calls Try.prog 39 #[.pointer (some ⟨D, 0, none⟩)] w fun e w' => e = .returned (.bool true) ∧ w = w' := by
  have hc := h.cell 0 _ h0
  clear h h0
  go_enter Try.func39, Try.ntmps39
  go_wp2
  go_ret
  exact ⟨rfl, rfl⟩

theorem there_any [Inhabited (Option Nat)] (w : World) (D S : Nat) (wv : Value) (k : Dk) (h : DkAt w D S wv k) :
    Calls Try.prog 39 #[.pointer (some ⟨D, 0, none⟩)] w fun e w' => e = .returned (.bool true) ∧ w = w' := by
  obtain ⟨vs, ns, css, h⟩ := h
  exact there_disk w D S _ h.cd rfl

def hasB (i : Int) : Bool := decide (0 ≤ i) && decide (i < 16)

theorem has_any (w : World) (i : Int) : Calls Try.prog 57 #[.int .i64 i] w fun e w' => e = .returned (.bool (hasB i)) ∧ w = w' := by
  by_cases h : 0 ≤ i
  · have h' : (decide (0 ≤ i)) = true := by simpa using h
    by_cases h2 : i < 16
    · have h2' : (decide (i < 16)) = true := by simpa using h2
      go_enter Try.func57, Try.ntmps57
      go_wp2
      go_ret
      exact ⟨by simp [hasB, h, h2], rfl⟩
    · have h2' : (decide (i < 16)) = false := by simpa using h2
      go_enter Try.func57, Try.ntmps57
      go_wp2
      go_ret
      exact ⟨by simp [hasB, h, h2], rfl⟩
  · have h' : (decide (0 ≤ i)) = false := by simpa using h
    go_enter Try.func57, Try.ntmps57
    go_wp2
    go_ret
    exact ⟨by simp [hasB]; omega, rfl⟩

theorem modulo_any (w : World) (n : Int) (by_ : Nat) (h1 : -9223372036854775808 ≤ n) (h2 : n ≤ 9223372036854775807) (hb : 0 < by_) (hb' : by_ ≤ 100000000) :
    Calls Try.prog 41 #[.int .i64 n, .int .i64 (by_ : Int)] w fun e w' => e = .returned (.int .i64 (n % (by_ : Int))) ∧ w = w' := by
  have e1 : (n.tmod (by_ : Int) + (by_ : Int)) % (by_ : Int) = n % (by_ : Int) := by
    rw [Int.add_emod_right, Int.tmod_def, Int.sub_mul_emod_self_left]
  have r1 : -(by_ : Int) < n.tmod (by_ : Int) := Int.lt_tmod_of_pos n (by omega)
  have r2 : n.tmod (by_ : Int) < (by_ : Int) := Int.tmod_lt_of_pos n (by omega)
  have E := Lib.hid e1
  clear e1
  have z : ((by_ : Int) = 0) = False := by simp; omega
  go_enter Try.func41, Try.ntmps41
  go_wp2
  go_ret
  exact ⟨by rw [← E.out]; rfl, rfl⟩

/-- A step's way through the fuse. -/
def burnK (k : Dk) : Int × Dk :=
  if k.dead then (20, k) else if k.armed then (if k.fuse = 0 then (19, { k with dead := true }) else (0, { k with fuse := k.fuse - 1 })) else (0, k)

set_option maxHeartbeats 1000000 in
theorem burn_any [Inhabited (Option Nat)] (w : World) (D S : Nat) (wv : Value) (k : Dk) (h : DkAt w D S wv k) (hf : 0 ≤ k.fuse) (hf' : k.fuse ≤ 9223372036854775807) :
    Calls Try.prog 62 #[.pointer (some ⟨D, 0, none⟩)] w fun e w' => e = .returned (.int .i64 (burnK k).1) ∧ DkAt w' D S wv (burnK k).2 ∧ Mv D S wv w w' := by
  obtain ⟨vs, ns, css, h⟩ := h
  have h3 := h.cd.cell 18 _ (dkC_tail h.ln.1 1)
  have h4 := h.cd.cell 19 _ (dkC_tail h.ln.1 2)
  have h5 := h.cd.cell 20 _ (dkC_tail h.ln.1 3)
  have H := Lib.hid h
  clear h
  obtain ⟨set, now, wait, f, a, d⟩ := k
  dsimp only at h3 h4 h5 hf hf'
  cases d
  case true =>
    go_enter Try.func62, Try.ntmps62
    go_wp2
    go_ret
    exact ⟨rfl, ⟨_, _, _, H.out⟩, Mv.refl _ _ _ _⟩
  case false =>
    cases a
    case false =>
      go_enter Try.func62, Try.ntmps62
      go_wp2
      go_ret
      exact ⟨rfl, ⟨_, _, _, H.out⟩, Mv.refl _ _ _ _⟩
    case true =>
      by_cases hz : f = 0
      · subst hz
        go_enter Try.func62, Try.ntmps62
        go_wp2_with (with_reducible refine stopStore 4 ?_)
        refine Stop.go ?_
        refine wpList_store_cell rfl 4 (.tmp 22) (.const (.bool true)) rfl D 20 65 rfl _ (.bool true) rfl rfl H.out.cd (by rw [dkC_length H.out.ln.1]; omega) infoBool ?_
        intro w8 k8 o8
        rw [dkC_setDead H.out.ln.1] at k8
        have K8 : Hid (DkV w8 D S vs ns wv css ⟨set, now, wait, 0, true, true⟩) := Lib.hid (H.out.disk k8 o8)
        have O8 := Lib.hid o8
        clear k8 o8 h3 h4 h5
        go_wp2
        go_ret
        exact ⟨rfl, ⟨_, _, _, K8.out⟩, Mv.disk O8.out⟩
      · go_enter Try.func62, Try.ntmps62
        go_wp2_with (with_reducible refine stopStore 3 ?_)
        refine Stop.go ?_
        refine wpList_store_cell rfl 3 (.tmp 29) (.tmp 27) rfl D 18 65 rfl _ (.int .i64 (f - 1)) rfl rfl H.out.cd (by rw [dkC_length H.out.ln.1]; omega) infoInt ?_
        intro w8 k8 o8
        rw [dkC_setFuse H.out.ln.1] at k8
        have K8 : Hid (DkV w8 D S vs ns wv css ⟨set, now, wait, f - 1, true, false⟩) := Lib.hid (H.out.disk k8 o8)
        have O8 := Lib.hid o8
        clear k8 o8 h3 h4 h5
        go_wp2
        go_ret
        exact ⟨by simp [burnK, hz], ⟨_, _, _, by simpa [burnK, hz] using K8.out⟩, Mv.disk O8.out⟩

end Go.Proofs.Ytbbbgpdhdlknjaa
