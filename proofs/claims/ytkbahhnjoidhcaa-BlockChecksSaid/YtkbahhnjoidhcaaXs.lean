/- Law 06: the chapter's row; errors' numbers. -/
import Derived.Test.YtkbahhnjoidhcaaXq
import Derived.OwnWalk
namespace Go.Proofs.Ytkbahhnjoidhcaa
set_option linter.unusedVariables false
set_option linter.unusedSimpArgs false
open Go.RowKit

theorem num6_any (w : World) (n : Int) :
    Calls Try.prog 35 #[.int .i64 n] w fun e w' => e = .returned (.int .i64 n) ∧ w' = w := by
  go_enter Try.func35, Try.ntmps35
  go_wp2
  go_ret
  exact ⟨rfl, rfl⟩

def zeroB : Bs := List.replicate 32 0
def hd0 : HdD := ⟨[zeroB], zeroB, zeroB, zeroB, zeroB, 0⟩

theorem made_hash : (madeCells (Value.agg (bvs (List.replicate 32 0)).toArray).cells (1 * 32)).toList = bvs ([zeroB] : List Bs).flatten := by kernel_rfl

set_option maxRecDepth 100000 in
set_option maxHeartbeats 4000000 in
theorem known6_any (w : World) : Calls Try.prog 8 #[] w fun e w' => e = .returned (.bool true) ∧ Below w.heap.size w w' := by
  obtain ⟨i0, hi, hz0, hz1, hz2⟩ := info_parts infoHash3
  have HI := Lib.hid (And.intro hi (And.intro hz0 (And.intro hz1 hz2)))
  clear hi hz0 hz1 hz2
  go_enter Try.func8, Try.ntmps8
  go_wp2_with (with_reducible refine stopAt 4 ?_)
  refine Stop.go ?_
  refine wpList_make_full w rfl _ _ 22 rfl w.heap.size 24 i0 _ 32 Try.underlying22 HI.out.1 HI.out.2.1 HI.out.2.2.1 .i64 .i64 1 1 1 rfl rfl rfl rfl (by rw [HI.out.2.2.2]; decide) (by decide) (Nat.le_refl _) ?_
  intro w1 o1 g1
  rw [made_hash] at o1
  have h1 : Hid (Hs w1 (.slice (some ⟨w.heap.size, 0, none⟩) 1 1) [zeroB]) := Lib.hid ⟨H32.one (by simp [zeroB]), Rd.of_own o1⟩
  have B1 : Hid (Below w.heap.size w w1) := Lib.hid ((Below.refl _ w).grown g1 (Nat.le_refl _) (fun j hj => by cases hj))
  clear o1 g1
  have C := Lib.hid (hdbytes_ok w1 hd0 (.slice (some ⟨w.heap.size, 0, none⟩) 1 1) ⟨by simp [hd0, zeroB], by simp [hd0, zeroB], by simp [hd0, zeroB], by simp [hd0, zeroB]⟩ h1.out (by simp [hd0]) (by simp [hd0]))
  go_wp2_with fail
  refine C.out.mono ?_
  rintro e w2 ⟨v2, rfl, o2, b2⟩
  have hl : (hdB hd0).length = 170 := by simp [hdB, hd0, zeroB, le_length]
  rw [hl] at o2
  obtain ⟨a2, c2, rfl⟩ := (Rd.of_own o2).slice
  have B2 := Lib.hid (B1.out.tr b2)
  clear o2 b2 C hl B1 h1 HI
  go_wp2_with fail
  refine (num6_any w2 0).mono ?_
  rintro e w3 ⟨rfl, rfl⟩
  go_wp2
  go_ret
  exact ⟨rfl, B2.out⟩

end Go.Proofs.Ytkbahhnjoidhcaa
