/- Disks: what is answered of a disk, the fuse laid: the walks. -/
import Derived.Test.YtbbbgpdhdlknjaaDd
namespace Go.Proofs.Ytbbbgpdhdlknjaa
set_option linter.unusedVariables false
set_option linter.unusedSimpArgs false
open Go.RowKit Go.Lib

theorem has_yes [Inhabited (Option Nat)] (w : World) (i : Nat) (h : i < 16) : Calls Try.prog 57 #[.int .i64 (i : Int)] w fun e w' => e = .returned (.bool true) ∧ w = w' := by
  have e : hasB (i : Int) = true := by simp [hasB]; omega
  have h := has_any w (i : Int)
  rw [e] at h
  exact h

theorem has_no [Inhabited (Option Nat)] (w : World) (i : Int) (h : hasB i = false) : Calls Try.prog 57 #[.int .i64 i] w fun e w' => e = .returned (.bool false) ∧ w = w' := by
  have h' := has_any w i
  rw [h] at h'
  exact h'

/-- A disk that is not there. -/
def Gone (w : World) (p : Value) : Prop := p = .pointer none ∨ ∃ D cs, p = .pointer (some ⟨D, 0, none⟩) ∧ CB w 65 D cs ∧ cs[0]? = some (.pointer none)

theorem Gone.fresh {w w' : World} {p : Value} (h : Gone w p) (hb : Below w.heap.size w w') : Gone w' p := by
  rcases h with h | ⟨D, cs, h, hc, h0⟩
  · exact .inl h
  · exact .inr ⟨D, cs, h, hc.fresh hb, h0⟩

theorem Gone.drew {w : World} {p : Value} (h : Gone w p) : Gone w.drew p := h

theorem there_gone [Inhabited (Option Nat)] (w : World) (p : Value) (h : Gone w p) : Calls Try.prog 39 #[p] w fun e w' => e = .returned (.bool false) ∧ w = w' := by
  rcases h with rfl | ⟨D, cs, rfl, hc, h0⟩
  · exact there_none w
  · exact there_zero w D cs hc h0

theorem dead_gone [Inhabited (Option Nat)] (w : World) (p : Value) (h : Gone w p) : Calls Try.prog 15 #[p] w fun e w' => e = .returned (.bool false) ∧ w = w' := by
  go_enter Try.func15, Try.ntmps15
  go_wp2_with fail
  refine (there_gone w p h).mono ?_
  rintro e w1 ⟨rfl, rfl⟩
  go_wp2
  go_ret
  exact ⟨rfl, rfl⟩

theorem waiting_gone [Inhabited (Option Nat)] (w : World) (p : Value) (h : Gone w p) : Calls Try.prog 16 #[p] w fun e w' => e = .returned (.int .i64 0) ∧ w = w' := by
  go_enter Try.func16, Try.ntmps16
  go_wp2_with fail
  refine (there_gone w p h).mono ?_
  rintro e w1 ⟨rfl, rfl⟩
  go_wp2
  go_ret
  exact ⟨rfl, rfl⟩

theorem len_gone [Inhabited (Option Nat)] (w : World) (p : Value) (i : Int) (h : Gone w p) : Calls Try.prog 32 #[p, .int .i64 i] w fun e w' => e = .returned (.int .i64 0) ∧ w = w' := by
  go_enter Try.func32, Try.ntmps32
  go_wp2_with fail
  refine (there_gone w p h).mono ?_
  rintro e w1 ⟨rfl, rfl⟩
  go_wp2
  go_ret
  exact ⟨rfl, rfl⟩

theorem sync_gone [Inhabited (Option Nat)] (w : World) (p : Value) (h : Gone w p) : Calls Try.prog 29 #[p] w fun e w' => e = .returned (.int .i64 1) ∧ w = w' := by
  go_enter Try.func29, Try.ntmps29
  go_wp2_with fail
  refine (there_gone w p h).mono ?_
  rintro e w1 ⟨rfl, rfl⟩
  go_wp2
  go_ret
  exact ⟨rfl, rfl⟩

theorem setfuse_gone [Inhabited (Option Nat)] (w : World) (p : Value) (n : Int) (h : Gone w p) : Calls Try.prog 30 #[p, .int .i64 n] w fun e w' => e = .returned (.int .i64 1) ∧ w = w' := by
  go_enter Try.func30, Try.ntmps30
  go_wp2_with fail
  refine (there_gone w p h).mono ?_
  rintro e w1 ⟨rfl, rfl⟩
  go_wp2
  go_ret
  exact ⟨rfl, rfl⟩

theorem append_gone [Inhabited (Option Nat)] (w : World) (p v : Value) (i : Int) (h : Gone w p) : Calls Try.prog 27 #[p, .int .i64 i, v] w fun e w' => e = .returned (.int .i64 1) ∧ w = w' := by
  go_enter Try.func27, Try.ntmps27
  go_wp2_with fail
  refine (there_gone w p h).mono ?_
  rintro e w1 ⟨rfl, rfl⟩
  go_wp2
  go_ret
  exact ⟨rfl, rfl⟩

theorem crash_gone [Inhabited (Option Nat)] (w : World) (p : Value) (n m : Int) (h : Gone w p) : Calls Try.prog 14 #[p, .int .i64 n, .int .i64 m] w fun e w' => e = .returned (.int .i64 1) ∧ w = w' := by
  go_enter Try.func14, Try.ntmps14
  go_wp2_with fail
  refine (there_gone w p h).mono ?_
  rintro e w1 ⟨rfl, rfl⟩
  go_wp2
  go_ret
  exact ⟨rfl, rfl⟩

theorem edit_gone [Inhabited (Option Nat)] (w : World) (p x : Value) (n m : Int) (h : Gone w p) : Calls Try.prog 31 #[p, .int .i64 n, .int .i64 m, x] w fun e w' => e = .returned (.int .i64 1) ∧ w = w' := by
  go_enter Try.func31, Try.ntmps31
  go_wp2_with fail
  refine (there_gone w p h).mono ?_
  rintro e w1 ⟨rfl, rfl⟩
  go_wp2
  go_ret
  exact ⟨rfl, rfl⟩

theorem copy_gone [Inhabited (Option Nat)] (w : World) (p : Value) (h : Gone w p) : Calls Try.prog 25 #[p] w fun e w' => e = .returned (.pointer none) ∧ w = w' := by
  go_enter Try.func25, Try.ntmps25
  go_wp2_with fail
  refine (there_gone w p h).mono ?_
  rintro e w1 ⟨rfl, rfl⟩
  go_wp2
  go_ret
  exact ⟨rfl, rfl⟩

theorem read_gone [Inhabited (Option Nat)] (w : World) (p : Value) (i : Int) (h : Gone w p) : Calls Try.prog 24 #[p, .int .i64 i] w fun e w' => e = .returned (.tuple #[.slice none 0 0, .int .i64 1]) ∧ w = w' := by
  go_enter Try.func24, Try.ntmps24
  go_wp2_with fail
  refine (there_gone w p h).mono ?_
  rintro e w1 ⟨rfl, rfl⟩
  go_wp2
  go_ret2
  exact ⟨rfl, rfl⟩

theorem same_gone [Inhabited (Option Nat)] (w : World) (p q : Value) (h : Gone w p) (h2 : Gone w q) : Calls Try.prog 26 #[p, q] w fun e w' => e = .returned (.bool true) ∧ w = w' := by
  go_enter Try.func26, Try.ntmps26
  go_wp2_with fail
  refine (there_gone w p h).mono ?_
  rintro e w1 ⟨rfl, rfl⟩
  go_wp2_with fail
  refine (there_gone w p h).mono ?_
  rintro e w1 ⟨rfl, rfl⟩
  go_wp2_with fail
  refine (there_gone w q h2).mono ?_
  rintro e w1 ⟨rfl, rfl⟩
  go_wp2
  go_ret
  exact ⟨rfl, rfl⟩

theorem same_half [Inhabited (Option Nat)] (w : World) (p : Value) (D S : Nat) (wv : Value) (k : Dk) (h : Gone w p) (h2 : DkAt w D S wv k) : Calls Try.prog 26 #[p, .pointer (some ⟨D, 0, none⟩)] w fun e w' => e = .returned (.bool false) ∧ w = w' := by
  go_enter Try.func26, Try.ntmps26
  go_wp2_with fail
  refine (there_gone w p h).mono ?_
  rintro e w1 ⟨rfl, rfl⟩
  go_wp2_with fail
  refine (there_gone w p h).mono ?_
  rintro e w1 ⟨rfl, rfl⟩
  go_wp2_with fail
  refine (there_any w D S wv k h2).mono ?_
  rintro e w1 ⟨rfl, rfl⟩
  go_wp2
  go_ret
  exact ⟨rfl, rfl⟩

theorem cut_gone [Inhabited (Option Nat)] (w : World) (p : Value) (n m : Int) (h : Gone w p) : Calls Try.prog 28 #[p, .int .i64 n, .int .i64 m] w fun e w' => e = .returned (.int .i64 1) ∧ Below w.heap.size w w' := by
  have H := Lib.hid h
  clear h
  go_enter Try.func28, Try.ntmps28
  go_wp2_with fail
  obtain ⟨w1, h1, k1, b1, s1⟩ := alloc_cb w 3 [.int .i64 n]
  obtain ⟨w2, h2, k2, b2, s2⟩ := alloc_cb w1 3 [.int .i64 m]
  rw [← h1, ← h2]
  have BB := Lib.hid (b1.tr b2)
  clear h1 k1 b1 s1 h2 k2 b2 s2
  refine (there_gone w2 p (H.out.fresh BB.out)).mono ?_
  rintro e w3 ⟨rfl, rfl⟩
  go_wp2
  go_ret
  exact ⟨rfl, BB.out⟩

theorem dead_any [Inhabited (Option Nat)] (w : World) (D S : Nat) (wv : Value) (k : Dk) (h : DkAt w D S wv k) : Calls Try.prog 15 #[.pointer (some ⟨D, 0, none⟩)] w fun e w' => e = .returned (.bool k.dead) ∧ w = w' := by
  obtain ⟨vs, ns, css, hd⟩ := h
  have h5 := hd.cd.cell 20 _ (dkC_tail hd.ln.1 3)
  have T := Lib.hid (there_any w D S wv k ⟨vs, ns, css, hd⟩)
  clear hd
  go_enter Try.func15, Try.ntmps15
  go_wp2_with fail
  refine (T.out).mono ?_
  rintro e w1 ⟨rfl, rfl⟩
  go_wp2
  go_ret
  exact ⟨rfl, rfl⟩

theorem waiting_any [Inhabited (Option Nat)] (w : World) (D S : Nat) (wv : Value) (k : Dk) (h : DkAt w D S wv k) : Calls Try.prog 16 #[.pointer (some ⟨D, 0, none⟩)] w fun e w' => e = .returned (.int .i64 (k.wait.length : Int)) ∧ w = w' := by
  obtain ⟨vs, ns, css, hd⟩ := h
  have h5 := hd.cd.cell 17 _ (dkC_tail hd.ln.1 0)
  have T := Lib.hid (there_any w D S wv k ⟨vs, ns, css, hd⟩)
  obtain ⟨a, c, rfl⟩ := hd.wt.slice
  clear hd
  go_enter Try.func16, Try.ntmps16
  go_wp2_with fail
  refine (T.out).mono ?_
  rintro e w1 ⟨rfl, rfl⟩
  go_wp2
  go_ret
  exact ⟨rfl, rfl⟩

theorem len_any [Inhabited (Option Nat)] (w : World) (D S : Nat) (wv : Value) (k : Dk) (i : Nat) (h : DkAt w D S wv k) (hi : i < 16) : Calls Try.prog 32 #[.pointer (some ⟨D, 0, none⟩), .int .i64 (i : Int)] w fun e w' => e = .returned (.int .i64 ((k.now.getD i []).length : Int)) ∧ w = w' := by
  obtain ⟨vs, ns, css, hd⟩ := h
  obtain ⟨v, b, hv, hb, hr, hg⟩ := hd.ln.get hi
  have h5 := hd.cd.cell (i + 1) _ ((dkC_now hd.ln.1 hi).trans hv)
  have T := Lib.hid (there_any w D S wv k ⟨vs, ns, css, hd⟩)
  obtain ⟨a, c, rfl⟩ := hr.slice
  rw [hg]
  have U := Lib.hid (has_yes w i hi)
  have bi : (i : Int) < 16 := by omega
  rw [Nat.add_comm i 1] at h5
  clear hd hv hb hr hg
  go_enter Try.func32, Try.ntmps32
  go_wp2_with fail
  refine (T.out).mono ?_
  rintro e w1 ⟨rfl, rfl⟩
  go_wp2_with fail
  refine (U.out).mono ?_
  rintro e w1 ⟨rfl, rfl⟩
  go_wp2
  go_ret
  exact ⟨rfl, rfl⟩

theorem len_no [Inhabited (Option Nat)] (w : World) (D S : Nat) (wv : Value) (k : Dk) (i : Int) (h : DkAt w D S wv k) (hi : hasB i = false) : Calls Try.prog 32 #[.pointer (some ⟨D, 0, none⟩), .int .i64 i] w fun e w' => e = .returned (.int .i64 0) ∧ w = w' := by
  have T := Lib.hid (there_any w D S wv k h)
  have U := Lib.hid (has_no w i hi)
  clear h hi
  go_enter Try.func32, Try.ntmps32
  go_wp2_with fail
  refine (T.out).mono ?_
  rintro e w1 ⟨rfl, rfl⟩
  go_wp2_with fail
  refine (U.out).mono ?_
  rintro e w1 ⟨rfl, rfl⟩
  go_wp2
  go_ret
  exact ⟨rfl, rfl⟩

theorem read_no [Inhabited (Option Nat)] (w : World) (D S : Nat) (wv : Value) (k : Dk) (i : Int) (h : DkAt w D S wv k) (hi : hasB i = false) : Calls Try.prog 24 #[.pointer (some ⟨D, 0, none⟩), .int .i64 i] w fun e w' => e = .returned (.tuple #[.slice none 0 0, .int .i64 2]) ∧ w = w' := by
  have T := Lib.hid (there_any w D S wv k h)
  have U := Lib.hid (has_no w i hi)
  clear h hi
  go_enter Try.func24, Try.ntmps24
  go_wp2_with fail
  refine (T.out).mono ?_
  rintro e w1 ⟨rfl, rfl⟩
  go_wp2_with fail
  refine (U.out).mono ?_
  rintro e w1 ⟨rfl, rfl⟩
  go_wp2
  go_ret2
  exact ⟨rfl, rfl⟩

theorem read_any [Inhabited (Option Nat)] (w : World) (D S : Nat) (wv : Value) (k : Dk) (i : Nat) (h : DkAt w D S wv k) (hi : i < 16) (hl : (k.now.getD i []).length ≤ 100000000) : Calls Try.prog 24 #[.pointer (some ⟨D, 0, none⟩), .int .i64 (i : Int)] w fun e w' => ∃ v', e = .returned (.tuple #[v', .int .i64 0]) ∧ w'.ownsRow w.heap.size 5 1 v' (k.now.getD i []).length (bvs (k.now.getD i [])) ∧ Below w.heap.size w w' := by
  obtain ⟨vs, ns, css, hd⟩ := h
  obtain ⟨v, b, hv, hb, hr, hg⟩ := hd.ln.get hi
  have h5 := hd.cd.cell (i + 1) _ ((dkC_now hd.ln.1 hi).trans hv)
  have T := Lib.hid (there_any w D S wv k ⟨vs, ns, css, hd⟩)
  obtain ⟨a, c, rfl⟩ := hr.slice
  rw [hg] at hl ⊢
  have C := Lib.hid (clone_any w _ b hr hl)
  have U := Lib.hid (has_yes w i hi)
  have bi : (i : Int) < 16 := by omega
  rw [Nat.add_comm i 1] at h5
  clear hd hv hb hr hg hl
  go_enter Try.func24, Try.ntmps24
  go_wp2_with fail
  refine (T.out).mono ?_
  rintro e w1 ⟨rfl, rfl⟩
  go_wp2_with fail
  refine (U.out).mono ?_
  rintro e w1 ⟨rfl, rfl⟩
  go_wp2_with fail
  refine (C.out).mono ?_
  rintro e w1 ⟨v', rfl, o1, b1⟩
  have O1 := Lib.hid o1
  have B1 := Lib.hid b1
  clear o1 b1 h5
  go_wp2
  go_ret2
  exact ⟨_, rfl, O1.out, B1.out⟩

theorem setfuse_no [Inhabited (Option Nat)] (w : World) (D S : Nat) (wv : Value) (k : Dk) (n : Int) (h : DkAt w D S wv k) (hn : n < 0) : Calls Try.prog 30 #[.pointer (some ⟨D, 0, none⟩), .int .i64 n] w fun e w' => e = .returned (.int .i64 2) ∧ w = w' := by
  have T := Lib.hid (there_any w D S wv k h)
  clear h
  go_enter Try.func30, Try.ntmps30
  go_wp2_with fail
  refine (T.out).mono ?_
  rintro e w1 ⟨rfl, rfl⟩
  go_wp2
  go_ret
  exact ⟨rfl, rfl⟩

theorem setfuse_any [Inhabited (Option Nat)] (w : World) (D S : Nat) (wv : Value) (k : Dk) (n : Int) (h : DkAt w D S wv k) (hn : 0 ≤ n) : Calls Try.prog 30 #[.pointer (some ⟨D, 0, none⟩), .int .i64 n] w fun e w' => e = .returned (.int .i64 0) ∧ DkAt w' D S wv { k with fuse := n, armed := true } ∧ Mv D S wv w w' := by
  have T := Lib.hid (there_any w D S wv k h)
  obtain ⟨vs, ns, css, h⟩ := h
  have H := Lib.hid h
  clear h
  go_enter Try.func30, Try.ntmps30
  go_wp2_with fail
  refine (T.out).mono ?_
  rintro e w1 ⟨rfl, rfl⟩
  go_wp2_with (with_reducible refine stopStore 3 ?_)
  refine Stop.go ?_
  refine wpList_store_cell rfl 3 (.tmp 16) (.tmp 14) rfl D 18 65 rfl _ (.int .i64 n) rfl rfl H.out.cd (by rw [dkC_length H.out.ln.1]; omega) infoInt ?_
  intro w8 k8 o8
  rw [dkC_setFuse H.out.ln.1] at k8
  have K8 : Hid (DkV w8 D S vs ns wv css { k with fuse := n }) := Lib.hid (H.out.disk k8 o8)
  have O8 := Lib.hid o8
  clear k8 o8
  go_wp2_with (with_reducible refine stopStore 4 ?_)
  refine Stop.go ?_
  refine wpList_store_cell rfl 4 (.tmp 18) (.const (.bool true)) rfl D 19 65 rfl _ (.bool true) rfl rfl K8.out.cd (by rw [dkC_length H.out.ln.1]; omega) infoBool ?_
  intro w9 k9 o9
  rw [dkC_setArmed H.out.ln.1] at k9
  have K9 : Hid (DkV w9 D S vs ns wv css { k with fuse := n, armed := true }) := Lib.hid (K8.out.disk k9 o9)
  have O9 := Lib.hid o9
  clear k9 o9
  go_wp2
  go_ret
  exact ⟨rfl, ⟨_, _, _, K9.out⟩, (Mv.disk O8.out).tr' (Mv.disk O9.out)⟩

end Go.Proofs.Ytbbbgpdhdlknjaa
