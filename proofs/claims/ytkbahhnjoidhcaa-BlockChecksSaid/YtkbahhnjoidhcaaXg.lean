/- tx.Same: the walk. -/
import Derived.Test.YtkbahhnjoidhcaaXf
namespace Go.Proofs.Ytkbahhnjoidhcaa
set_option linter.unusedVariables false
set_option linter.unusedSimpArgs false
open Go.RowKit

theorem tx_split (x y : TxD) : decide (x = y) = ((x.nonce == y.nonce) && (decide (x.outs = y.outs) && decide (x.ins = y.ins))) := by
  rw [Bool.eq_iff_iff]
  cases x; cases y
  simp
  constructor
  · rintro ⟨a, b, c⟩; exact ⟨c, b, a⟩
  · rintro ⟨a, b, c⟩; exact ⟨c, b, a⟩

theorem txC_one (x : TxD) (u : Value × Value) (h1 : u.1.oneCell' = true) (h2 : u.2.oneCell' = true) : ∀ c ∈ txC (x, u), c.oneCell' = true := by
  intro c hc
  simp only [txC, List.mem_cons, List.not_mem_nil, or_false] at hc
  rcases hc with rfl | rfl | rfl
  · exact h1
  · exact h2
  · rfl

set_option maxRecDepth 100000 in
set_option maxHeartbeats 1000000 in
theorem tsame_any (F G : Nat → Prop) (w : World) (x y : TxD) (u v : Value × Value) (hu : Ins F w u.1 x.ins ∧ Outs F w u.2 x.outs) (hv : Ins G w v.1 y.ins ∧ Outs G w v.2 y.outs) :
    Calls Try.prog 26 #[.agg (txC (x, u)).toArray, .agg (txC (y, v)).toArray] w fun e w' => e = .returned (.bool (decide (x = y))) ∧ Below w.heap.size w w' := by
  obtain ⟨R, hR⟩ : ∃ R, R = decide (x = y) := ⟨_, rfl⟩
  rw [← hR]
  rw [tx_split] at hR
  have HU := Lib.hid (And.intro hu hv)
  have HR := Lib.hid hR
  obtain ⟨u1, u2⟩ := u
  obtain ⟨v1, v2⟩ := v
  change Calls _ _ #[.agg #[u1, u2, .int .u64 x.nonce], .agg #[v1, v2, .int .u64 y.nonce]] _ _
  clear hR hu hv
  cases hn : (x.nonce == y.nonce)
  · have hf : Hid (R = false) := Lib.hid (by rw [HR.out, hn]; rfl)
    go_enter Try.func26, Try.ntmps26
    go_wp2_with (with_reducible refine stopAt 6 ?_)
    refine Stop.go ?_
    obtain ⟨w1, h1, k1, b1, s1⟩ := alloc_cb w 37 [u1, u2, .int .u64 x.nonce]
    obtain ⟨w2, h2, k2, b2, s2⟩ := alloc_cb w1 37 [v1, v2, .int .u64 y.nonce]
    change wpList _ _ _ _ _ ((w.alloc (.cells [u1, u2, .int .u64 x.nonce].toArray 37)).alloc (.cells [v1, v2, .int .u64 y.nonce].toArray 37))
    rw [← h1, ← h2]
    rw [s1] at s2 k2
    have BB := Lib.hid (b1.tr b2)
    have KK := Lib.hid (And.intro (k1.fresh b2) k2)
    have hc10 := (k1.fresh b2).cell 0 _ rfl
    have hc11 := (k1.fresh b2).cell 1 _ rfl
    have hc12 := (k1.fresh b2).cell 2 _ rfl
    have hc20 := k2.cell 0 _ rfl
    have hc21 := k2.cell 1 _ rfl
    have hc22 := k2.cell 2 _ rfl
    clear h1 h2 k1 k2 b1 b2 s1 s2
    go_wp2
    go_ret
    exact ⟨by rw [hf.out]; rfl, BB.out⟩
  · have hf : Hid (R = (decide (x.outs = y.outs) && decide (x.ins = y.ins))) := Lib.hid (by rw [HR.out, hn]; rfl)
    go_enter Try.func26, Try.ntmps26
    go_wp2_with (with_reducible refine stopAt 6 ?_)
    refine Stop.go ?_
    obtain ⟨w1, h1, k1, b1, s1⟩ := alloc_cb w 37 [u1, u2, .int .u64 x.nonce]
    obtain ⟨w2, h2, k2, b2, s2⟩ := alloc_cb w1 37 [v1, v2, .int .u64 y.nonce]
    change wpList _ _ _ _ _ ((w.alloc (.cells [u1, u2, .int .u64 x.nonce].toArray 37)).alloc (.cells [v1, v2, .int .u64 y.nonce].toArray 37))
    rw [← h1, ← h2]
    rw [s1] at s2 k2
    have BB := Lib.hid (b1.tr b2)
    have KK := Lib.hid (And.intro (k1.fresh b2) k2)
    have hc10 := (k1.fresh b2).cell 0 _ rfl
    have hc11 := (k1.fresh b2).cell 1 _ rfl
    have hc12 := (k1.fresh b2).cell 2 _ rfl
    have hc20 := k2.cell 0 _ rfl
    have hc21 := k2.cell 1 _ rfl
    have hc22 := k2.cell 2 _ rfl
    clear h1 h2 k1 k2 b1 b2 s1 s2
    have CO := Lib.hid (equal_output w2 u2 v2 x.outs y.outs ⟨HU.out.1.2.1, (HU.out.1.2.2.1.fresh BB.out)⟩ ⟨HU.out.2.2.1, (HU.out.2.2.2.1.fresh BB.out)⟩)
    cases ho : decide (x.outs = y.outs)
    · rw [ho] at CO
      have hf' : Hid (R = false) := Lib.hid (by rw [hf.out, ho]; rfl)
      clear ho
      go_wp2_with fail
      refine (CO.out).mono ?_
      rintro e w3 ⟨rfl, b3⟩
      replace BB := Lib.hid (BB.out.tr b3)
      clear b3 CO hc10 hc11 hc12 hc20 hc21 hc22
      go_wp2
      go_ret
      exact ⟨by rw [hf'.out]; rfl, BB.out⟩
    · rw [ho] at CO
      have hf' : Hid (R = decide (x.ins = y.ins)) := Lib.hid (by rw [hf.out, ho]; rfl)
      clear ho
      go_wp2_with fail
      refine (CO.out).mono ?_
      rintro e w3 ⟨rfl, b3⟩
      replace BB := Lib.hid (BB.out.tr b3)
      replace KK := Lib.hid (And.intro (KK.out.1.fresh b3) (KK.out.2.fresh b3))
      clear b3 CO hc10 hc11 hc12 hc20 hc21 hc22
      have hc10 := KK.out.1.cell 0 _ rfl
      have hc20 := KK.out.2.cell 0 _ rfl
      go_wp2_with fail
      refine (equalf_in F G w3 u1 v1 x.ins y.ins (HU.out.1.1.fresh BB.out) (HU.out.2.1.fresh BB.out)).mono ?_
      rintro e w4 ⟨rfl, b4⟩
      replace BB := Lib.hid (BB.out.tr b4)
      rw [← hf'.out]
      clear b4 hc10 hc20
      go_wp2
      go_ret
      exact ⟨rfl, BB.out⟩

end Go.Proofs.Ytkbahhnjoidhcaa
