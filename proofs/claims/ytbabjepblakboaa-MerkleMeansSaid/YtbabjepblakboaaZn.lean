/- MerkleMeans: the law's walk, where nothing is asked; what stands while it is asked. -/
import Derived.Test.YtbabjepblakboaaZj
import Derived.Deep.DeepCutAuto
namespace Go.Proofs.Ytbabjepblakboaa
set_option linter.unusedVariables false
set_option linter.unusedSimpArgs false
open Go.RowKit Go.Lib

/-- What stands: the boxes of the other hash, of the root and of the path; the hashes and the path's. -/
def MK (w0 w' : World) (g9 g10 : Nat) (O R : Bs) (p N : Nat) (ids : Value) (l : List Bs) (pv : Value) (hs : List Bs) : Prop :=
  Below w0.heap.size w0 w' ∧ CB w' 24 w0.heap.size (bvs O) ∧ CB w' 24 g9 (bvs R) ∧ CB w' 92 g10 [.int .i64 (p : Int), .int .i64 (N : Int), pv] ∧ Hs w' ids l ∧ Hs w' pv hs

theorem MK.fresh {w0 w' w'' : World} {g9 g10 : Nat} {O R : Bs} {p N : Nat} {ids : Value} {l : List Bs} {pv : Value} {hs : List Bs} (h : MK w0 w' g9 g10 O R p N ids l pv hs) (hb : Below w'.heap.size w' w'') : MK w0 w'' g9 g10 O R p N ids l pv hs :=
  ⟨h.1.tr hb, h.2.1.fresh hb, h.2.2.1.fresh hb, h.2.2.2.1.fresh hb, h.2.2.2.2.1.fresh hb, h.2.2.2.2.2.fresh hb⟩

set_option maxRecDepth 100000 in
set_option maxHeartbeats 1000000 in
theorem ym_none (w : World) (v : Value) (l : List Bs) (h : Hs w v l) (n : Int) (O : Bs) (hO : O.length = 32) (q : Int) (h7 : 70 < l.length ∨ n < 0 ∨ (l.length : Int) ≤ n) :
    Calls Try.prog 11 #[v, .int .i64 n, .agg (bvs O).toArray, .int .i64 q] w fun e w' => e = .returned (.bool true) ∧ Below w.heap.size w w' := by
  obtain ⟨a0, c0, rfl⟩ := h.slice
  obtain ⟨N, hN⟩ : ∃ N, N = l.length := ⟨_, rfl⟩
  rw [← hN] at h7
  rw [← hN]
  clear h hN hO
  by_cases h70 : 70 < N
  · have i70 : (70 : Int) < (N : Int) := by omega
    clear h7 h70
    go_enter Try.func11, Try.ntmps11
    go_wp2_with fail
    obtain ⟨w1, hw1, k1, b1, s1⟩ := alloc_cb w 24 (bvs O)
    refine (yknown_any _).mono ?_
    rintro e w2 ⟨rfl, b2⟩
    change Below (w.alloc (.cells (bvs O).toArray 24)).heap.size (w.alloc (.cells (bvs O).toArray 24)) w2 at b2
    rw [← hw1] at b2
    have BB := Lib.hid (b1.tr b2)
    have KO := Lib.hid (k1.fresh b2)
    clear hw1 k1 b1 s1 b2
    go_wp2
    go_ret
    exact ⟨rfl, BB.out⟩
  · have i70 : ¬ ((70 : Int) < (N : Int)) := by omega
    by_cases hn : n < 0
    · clear h7 h70
      go_enter Try.func11, Try.ntmps11
      go_wp2_with fail
      obtain ⟨w1, hw1, k1, b1, s1⟩ := alloc_cb w 24 (bvs O)
      refine (yknown_any _).mono ?_
      rintro e w2 ⟨rfl, b2⟩
      change Below (w.alloc (.cells (bvs O).toArray 24)).heap.size (w.alloc (.cells (bvs O).toArray 24)) w2 at b2
      rw [← hw1] at b2
      have BB := Lib.hid (b1.tr b2)
      have KO := Lib.hid (k1.fresh b2)
      clear hw1 k1 b1 s1 b2
      go_wp2
      go_ret
      exact ⟨rfl, BB.out⟩
    · have hn2 : (N : Int) ≤ n := by omega
      clear h7 h70
      go_enter Try.func11, Try.ntmps11
      go_wp2_with fail
      obtain ⟨w1, hw1, k1, b1, s1⟩ := alloc_cb w 24 (bvs O)
      refine (yknown_any _).mono ?_
      rintro e w2 ⟨rfl, b2⟩
      change Below (w.alloc (.cells (bvs O).toArray 24)).heap.size (w.alloc (.cells (bvs O).toArray 24)) w2 at b2
      rw [← hw1] at b2
      have BB := Lib.hid (b1.tr b2)
      have KO := Lib.hid (k1.fresh b2)
      clear hw1 k1 b1 s1 b2
      go_wp2
      go_ret
      exact ⟨rfl, BB.out⟩

end Go.Proofs.Ytbabjepblakboaa
