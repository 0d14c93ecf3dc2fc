/- slices.Clone of hashes, inputs, outputs and bytes: the walks. -/
import Derived.Test.YtkbahhnjoidhcaaXa
import Derived.Lib.SliceRun
namespace Go.Proofs.Ytkbahhnjoidhcaa
set_option linter.unusedVariables false
set_option linter.unusedSimpArgs false
open Go.RowKit Go.Lib

theorem infoC_hash : (Try.prog.info? 24).map (fun i => (i.zero, i.size, i.bytes)) = some (some (.agg (bvs (List.replicate 32 0)).toArray), 32, 32) := by kernel_rfl

set_option maxRecDepth 100000 in
set_option maxHeartbeats 1000000 in
theorem clone_hash (w : World) (v : Value) (n : Nat) (cs : List Value) (hr : Rd w 32 v n cs) (h1 : ∀ u ∈ cs, u.oneCell' = true) (hn : n ≤ 100000000) :
    Calls Try.prog 41 #[v] w fun e w' => ∃ v', e = .returned v' ∧ w'.ownsRow w.heap.size 24 32 v' n cs ∧ Below w.heap.size w w' := by
  obtain ⟨i0, hi, hz0, hz1, hz2⟩ := info_parts infoC_hash
  rcases hr.2 with ⟨rfl, rfl⟩ | ⟨ad, c, rfl, hnc, hcm, _⟩
  · have hcs : cs = [] := List.eq_nil_of_length_eq_zero (by simpa using hr.1)
    subst hcs
    clear hr h1 hn
    have hnil := fun u : World => Lib.run_eql_slice_nil (P := Try.prog) u 22 _ none 0 0 0 0 Try.underlying22
    go_enter Try.func41, Try.ntmps41
    go_wp2
    go_ret
    exact ⟨_, rfl, World.ownsRow_nil _ _ _ _, Below.refl _ _⟩
  · have HR := Lib.hid hr
    have H1 := Lib.hid h1
    have HC := Lib.hid hn
    clear hr h1 hn hnc hcm
    have hnil := fun u : World => Lib.run_eql_slice_nil (P := Try.prog) u 22 _ (some ad) n c 0 0 Try.underlying22
    go_enter Try.func41, Try.ntmps41
    go_wp2_with (at_builtin; apply Stop.mk)
    refine Stop.go ?_
    have b1 : Below w.heap.size w (w.alloc (.cells #[] 24)) := (Below.refl _ w).alloc (Nat.le_refl _) _
    have ho : (w.alloc (.cells #[] 24)).ownsRow w.heap.size 24 32 (.slice (some ⟨w.heap.size, 0, none⟩) 0 0) 0 [] := by
      refine ⟨by simp, .inr ⟨w.heap.size, 0, #[], rfl, Nat.le_refl _, heap_alloc_new w _, Nat.le_refl _, by unfold maxLen; omega, by simp, by simp⟩⟩
    refine wpList_append_rd _ rfl (.tmp 5) (.tmp 6) 22 rfl w.heap.size 24 i0 _ 32 32 Try.underlying22 hi hz0 hz1 hz2 (by first | rfl | simp [Value.cells]) (by decide) (.slice (some ⟨w.heap.size, 0, none⟩) 0 0) 0 [] rfl ho (.slice (some ad) n c) n cs rfl (HR.out.fresh b1) H1.out (by unfold maxLen; have := HC.out; omega) (by have := HC.out; omega) b1.size ?_
    intro v' w' o1 g1 _ _
    have b2 : Below w.heap.size w w' := b1.grown g1 b1.size (fun k hk => by simp [Value.ownBlock] at hk; omega)
    have O2 := Lib.hid o1
    have B2 := Lib.hid b2
    clear o1 g1 b1 b2 ho
    go_wp2
    go_ret
    exact ⟨_, rfl, by simpa using O2.out, B2.out⟩

theorem infoC_input : (Try.prog.info? 44).map (fun i => (i.zero, i.size, i.bytes)) = some (some (.agg (bvs (List.replicate 32 0) ++ [Value.int .u32 0, Value.slice none 0 0]).toArray), 34, 64) := by kernel_rfl

set_option maxRecDepth 100000 in
set_option maxHeartbeats 1000000 in
theorem clone_input (w : World) (v : Value) (n : Nat) (cs : List Value) (hr : Rd w 34 v n cs) (h1 : ∀ u ∈ cs, u.oneCell' = true) (hn : n ≤ 100000000) :
    Calls Try.prog 57 #[v] w fun e w' => ∃ v', e = .returned v' ∧ w'.ownsRow w.heap.size 44 34 v' n cs ∧ Below w.heap.size w w' := by
  obtain ⟨i0, hi, hz0, hz1, hz2⟩ := info_parts infoC_input
  rcases hr.2 with ⟨rfl, rfl⟩ | ⟨ad, c, rfl, hnc, hcm, _⟩
  · have hcs : cs = [] := List.eq_nil_of_length_eq_zero (by simpa using hr.1)
    subst hcs
    clear hr h1 hn
    have hnil := fun u : World => Lib.run_eql_slice_nil (P := Try.prog) u 34 _ none 0 0 0 0 Try.underlying34
    go_enter Try.func57, Try.ntmps57
    go_wp2
    go_ret
    exact ⟨_, rfl, World.ownsRow_nil _ _ _ _, Below.refl _ _⟩
  · have HR := Lib.hid hr
    have H1 := Lib.hid h1
    have HC := Lib.hid hn
    clear hr h1 hn hnc hcm
    have hnil := fun u : World => Lib.run_eql_slice_nil (P := Try.prog) u 34 _ (some ad) n c 0 0 Try.underlying34
    go_enter Try.func57, Try.ntmps57
    go_wp2_with (at_builtin; apply Stop.mk)
    refine Stop.go ?_
    have b1 : Below w.heap.size w (w.alloc (.cells #[] 44)) := (Below.refl _ w).alloc (Nat.le_refl _) _
    have ho : (w.alloc (.cells #[] 44)).ownsRow w.heap.size 44 34 (.slice (some ⟨w.heap.size, 0, none⟩) 0 0) 0 [] := by
      refine ⟨by simp, .inr ⟨w.heap.size, 0, #[], rfl, Nat.le_refl _, heap_alloc_new w _, Nat.le_refl _, by unfold maxLen; omega, by simp, by simp⟩⟩
    refine wpList_append_rd _ rfl (.tmp 5) (.tmp 6) 34 rfl w.heap.size 44 i0 _ 34 64 Try.underlying34 hi hz0 hz1 hz2 (by first | rfl | simp [Value.cells]) (by decide) (.slice (some ⟨w.heap.size, 0, none⟩) 0 0) 0 [] rfl ho (.slice (some ad) n c) n cs rfl (HR.out.fresh b1) H1.out (by unfold maxLen; have := HC.out; omega) (by have := HC.out; omega) b1.size ?_
    intro v' w' o1 g1 _ _
    have b2 : Below w.heap.size w w' := b1.grown g1 b1.size (fun k hk => by simp [Value.ownBlock] at hk; omega)
    have O2 := Lib.hid o1
    have B2 := Lib.hid b2
    clear o1 g1 b1 b2 ho
    go_wp2
    go_ret
    exact ⟨_, rfl, by simpa using O2.out, B2.out⟩

theorem infoC_output : (Try.prog.info? 46).map (fun i => (i.zero, i.size, i.bytes)) = some (some (.agg (Value.int .u64 0 :: bvs (List.replicate 32 0)).toArray), 33, 40) := by kernel_rfl

set_option maxRecDepth 100000 in
set_option maxHeartbeats 1000000 in
theorem clone_output (w : World) (v : Value) (n : Nat) (cs : List Value) (hr : Rd w 33 v n cs) (h1 : ∀ u ∈ cs, u.oneCell' = true) (hn : n ≤ 100000000) :
    Calls Try.prog 58 #[v] w fun e w' => ∃ v', e = .returned v' ∧ w'.ownsRow w.heap.size 46 33 v' n cs ∧ Below w.heap.size w w' := by
  obtain ⟨i0, hi, hz0, hz1, hz2⟩ := info_parts infoC_output
  rcases hr.2 with ⟨rfl, rfl⟩ | ⟨ad, c, rfl, hnc, hcm, _⟩
  · have hcs : cs = [] := List.eq_nil_of_length_eq_zero (by simpa using hr.1)
    subst hcs
    clear hr h1 hn
    have hnil := fun u : World => Lib.run_eql_slice_nil (P := Try.prog) u 35 _ none 0 0 0 0 Try.underlying35
    go_enter Try.func58, Try.ntmps58
    go_wp2
    go_ret
    exact ⟨_, rfl, World.ownsRow_nil _ _ _ _, Below.refl _ _⟩
  · have HR := Lib.hid hr
    have H1 := Lib.hid h1
    have HC := Lib.hid hn
    clear hr h1 hn hnc hcm
    have hnil := fun u : World => Lib.run_eql_slice_nil (P := Try.prog) u 35 _ (some ad) n c 0 0 Try.underlying35
    go_enter Try.func58, Try.ntmps58
    go_wp2_with (at_builtin; apply Stop.mk)
    refine Stop.go ?_
    have b1 : Below w.heap.size w (w.alloc (.cells #[] 46)) := (Below.refl _ w).alloc (Nat.le_refl _) _
    have ho : (w.alloc (.cells #[] 46)).ownsRow w.heap.size 46 33 (.slice (some ⟨w.heap.size, 0, none⟩) 0 0) 0 [] := by
      refine ⟨by simp, .inr ⟨w.heap.size, 0, #[], rfl, Nat.le_refl _, heap_alloc_new w _, Nat.le_refl _, by unfold maxLen; omega, by simp, by simp⟩⟩
    refine wpList_append_rd _ rfl (.tmp 5) (.tmp 6) 35 rfl w.heap.size 46 i0 _ 33 40 Try.underlying35 hi hz0 hz1 hz2 (by first | rfl | simp [Value.cells]) (by decide) (.slice (some ⟨w.heap.size, 0, none⟩) 0 0) 0 [] rfl ho (.slice (some ad) n c) n cs rfl (HR.out.fresh b1) H1.out (by unfold maxLen; have := HC.out; omega) (by have := HC.out; omega) b1.size ?_
    intro v' w' o1 g1 _ _
    have b2 : Below w.heap.size w w' := b1.grown g1 b1.size (fun k hk => by simp [Value.ownBlock] at hk; omega)
    have O2 := Lib.hid o1
    have B2 := Lib.hid b2
    clear o1 g1 b1 b2 ho
    go_wp2
    go_ret
    exact ⟨_, rfl, by simpa using O2.out, B2.out⟩

theorem infoC_byte : (Try.prog.info? 5).map (fun i => (i.zero, i.size, i.bytes)) = some (some (.int .u8 0), 1, 1) := by kernel_rfl

set_option maxRecDepth 100000 in
set_option maxHeartbeats 1000000 in
theorem clone_byte (w : World) (v : Value) (n : Nat) (cs : List Value) (hr : Rd w 1 v n cs) (h1 : ∀ u ∈ cs, u.oneCell' = true) (hn : n ≤ 100000000) :
    Calls Try.prog 59 #[v] w fun e w' => ∃ v', e = .returned v' ∧ w'.ownsRow w.heap.size 5 1 v' n cs ∧ Below w.heap.size w w' := by
  obtain ⟨i0, hi, hz0, hz1, hz2⟩ := info_parts infoC_byte
  rcases hr.2 with ⟨rfl, rfl⟩ | ⟨ad, c, rfl, hnc, hcm, _⟩
  · have hcs : cs = [] := List.eq_nil_of_length_eq_zero (by simpa using hr.1)
    subst hcs
    clear hr h1 hn
    have hnil := fun u : World => Lib.run_eql_slice_nil (P := Try.prog) u 42 _ none 0 0 0 0 Try.underlying42
    go_enter Try.func59, Try.ntmps59
    go_wp2
    go_ret
    exact ⟨_, rfl, World.ownsRow_nil _ _ _ _, Below.refl _ _⟩
  · have HR := Lib.hid hr
    have H1 := Lib.hid h1
    have HC := Lib.hid hn
    clear hr h1 hn hnc hcm
    have hnil := fun u : World => Lib.run_eql_slice_nil (P := Try.prog) u 42 _ (some ad) n c 0 0 Try.underlying42
    go_enter Try.func59, Try.ntmps59
    go_wp2_with (at_builtin; apply Stop.mk)
    refine Stop.go ?_
    have b1 : Below w.heap.size w (w.alloc (.cells #[] 5)) := (Below.refl _ w).alloc (Nat.le_refl _) _
    have ho : (w.alloc (.cells #[] 5)).ownsRow w.heap.size 5 1 (.slice (some ⟨w.heap.size, 0, none⟩) 0 0) 0 [] := by
      refine ⟨by simp, .inr ⟨w.heap.size, 0, #[], rfl, Nat.le_refl _, heap_alloc_new w _, Nat.le_refl _, by unfold maxLen; omega, by simp, by simp⟩⟩
    refine wpList_append_rd _ rfl (.tmp 5) (.tmp 6) 42 rfl w.heap.size 5 i0 _ 1 1 Try.underlying42 hi hz0 hz1 hz2 (by first | rfl | simp [Value.cells]) (by decide) (.slice (some ⟨w.heap.size, 0, none⟩) 0 0) 0 [] rfl ho (.slice (some ad) n c) n cs rfl (HR.out.fresh b1) H1.out (by unfold maxLen; have := HC.out; omega) (by have := HC.out; omega) b1.size ?_
    intro v' w' o1 g1 _ _
    have b2 : Below w.heap.size w w' := b1.grown g1 b1.size (fun k hk => by simp [Value.ownBlock] at hk; omega)
    have O2 := Lib.hid o1
    have B2 := Lib.hid b2
    clear o1 g1 b1 b2 ho
    go_wp2
    go_ret
    exact ⟨_, rfl, by simpa using O2.out, B2.out⟩

end Go.Proofs.Ytkbahhnjoidhcaa
