/- Merkle: the laws' told: are two unlike texts of one hash told? -/
import Derived.Test.YtbabjepblakboaaZb
import Derived.Test.YtbabjepblakboaaYn
import Derived.Test.YtbabjepblakboaaG6
namespace Go.Proofs.Ytbabjepblakboaa
set_option linter.unusedVariables false
set_option linter.unusedSimpArgs false
open Go.RowKit Go.Lib

theorem ytold_any (w : World) (v vi : Value) (x : Bs) (n c : Int) (hs l : List Bs) (hx : x.length = 32) (h : Hs w v hs) (hi : Hs w vi l) (hl : l.length ≤ 1048576) :
    Calls Try.prog 62 #[.agg (bvs x).toArray, .agg #[.int .i64 n, .int .i64 c, v], vi] w fun e w' => e = .returned (.bool (collB l x n c hs)) ∧ Below w.heap.size w w' := by
  obtain ⟨a0, c0, rfl⟩ := h.slice
  obtain ⟨a1, c1, rfl⟩ := hi.slice
  obtain ⟨N, hN⟩ : ∃ N, N = hs.length := ⟨_, rfl⟩
  obtain ⟨M, hM⟩ : ∃ M, M = l.length := ⟨_, rfl⟩
  obtain ⟨T, hT⟩ : ∃ T, T = collB l x n c hs := ⟨_, rfl⟩
  have CO := fun w0 h0 h1 => collide_any w0 (.slice a0 hs.length c0) (.slice a1 l.length c1) x n c hs l hx h0 h1 hl
  rw [← hT, ← hN, ← hM] at CO
  rw [← hT]
  rw [← hN] at h ⊢
  rw [← hM] at hi ⊢
  replace CO := Lib.hid CO
  have H := Lib.hid h
  have HI := Lib.hid hi
  have HX := Lib.hid hx
  clear h hi hx hl hN hM hT
  go_enter Try.func62, Try.ntmps62
  go_wp2_with (with_reducible refine stopAt 11 ?_)
  refine Stop.go ?_
  obtain ⟨w1, h1, k1, b1, s1⟩ := alloc_cb w 24 (bvs x)
  obtain ⟨w2, h2, k2, b2, s2⟩ := alloc_cb w1 92 [.int .i64 n, .int .i64 c, .slice a0 N c0]
  change wpList _ _ _ _ _ ((w.alloc (.cells (bvs x).toArray 24)).alloc (.cells [.int .i64 n, .int .i64 c, .slice a0 N c0].toArray 92))
  rw [← h1, ← h2]
  rw [s1] at s2 k2
  have BB := Lib.hid (b1.tr b2)
  have SS := Lib.hid (And.intro (k1.fresh b2) k2)
  clear h1 h2 k1 k2 b1 b2 s1 s2
  refine wpList_load_agg rfl 24 (.tmp 3) rfl (⟨w.heap.size, 0, none⟩) rfl (bvs x) _ ((At.block SS.out.1).load) Try.underlying24 rfl (by rw [bvs_length, HX.out]; exact infoHash) ?_
  go_wp2_with (with_reducible refine stopAt 12 ?_)
  refine Stop.go ?_
  refine wpList_load_agg rfl 92 (.tmp 4) rfl ⟨w.heap.size + 1, 0, none⟩ rfl [.int .i64 n, .int .i64 c, .slice a0 N c0] _ (At.block SS.out.2).load Try.underlying92 rfl (by exact infoPath) ?_
  go_wp2_with fail
  refine (CO.out _ (H.out.fresh BB.out) (HI.out.fresh BB.out)).mono ?_
  rintro e w3 ⟨va, vb, rfl, ht, b3⟩
  replace BB := Lib.hid (BB.out.tr b3)
  clear b3 SS
  rcases ht with ⟨rfl, rfl, rfl⟩ | ⟨rfl, ta, tb, hle, ra, rb, hne, hsh⟩
  · go_wp2
    go_ret
    exact ⟨rfl, BB.out⟩
  · obtain ⟨aa, ca, rfl⟩ := ra.slice
    obtain ⟨ab, cb, rfl⟩ := rb.slice
    have va := ra.conv (P := Try.prog) 42 9 5 Try.underlying42 Try.underlying5 Try.underlying9
    have vb := rb.conv (P := Try.prog) 42 9 5 Try.underlying42 Try.underlying5 Try.underlying9
    have hq : (ta != tb) = true := by simpa using hne
    have RA := Lib.hid ra
    have RB := Lib.hid rb
    have LE := Lib.hid (And.intro hle hsh)
    clear ra rb hne hle hsh
    go_wp2_with (with_reducible refine stopAt 24 ?_)
    refine Stop.go ?_
    refine wpList_unguard' rfl ?_
    refine wpList_bin rfl .neq 9 9 (.tmp 21) (.tmp 23) rfl (.bool (ta != tb)) (str_guard _ _ _ _ _ _) (str_neq w3 ta tb) ?_
    rw [hq]
    clear hq va vb
    go_wp2_with fail
    refine (rsum_any w3 _ ta RA.out (by have := LE.out.1.1; omega)).mono ?_
    rintro e w4 ⟨rfl, b4⟩
    replace RB := Lib.hid (RB.out.fresh b4)
    replace BB := Lib.hid (BB.out.tr b4)
    clear b4
    go_wp2_with fail
    refine (rsum_any w4 _ tb RB.out (by have := LE.out.1.2; omega)).mono ?_
    rintro e w5 ⟨rfl, b5⟩
    replace BB := Lib.hid (BB.out.tr b5)
    rw [LE.out.2]
    clear b5
    go_wp2_with (with_reducible refine stopAt 31 ?_)
    refine Stop.go ?_
    refine wpList_unguard' rfl ?_
    refine wpList_bin rfl .eql 24 24 (.tmp 28) (.tmp 30) rfl (.bool true) (eqGuard_agg _ _ _ _ _ _ _ (by kernel_rfl)) (hash_eq_refl _ _ (shaB_length _)) ?_
    go_wp2
    go_ret
    exact ⟨rfl, BB.out⟩

end Go.Proofs.Ytbabjepblakboaa
