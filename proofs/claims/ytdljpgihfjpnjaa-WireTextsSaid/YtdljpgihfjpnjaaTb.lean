/- Bytes as digits: the reference's walk, and a hash's digits. -/
import Derived.Test.YtdljpgihfjpnjaaTa
namespace Go.Proofs.Ytdljpgihfjpnjaa
set_option linter.unusedVariables false
set_option linter.unusedSimpArgs false
open Go.RowKit

set_option maxRecDepth 100000 in
set_option maxHeartbeats 400000 in
theorem rhex_any (w : World) (v : Value) (l : List UInt8) (hr : Rd w 1 v l.length (bvs l)) (hn : l.length ≤ 1000000) :
    Calls Try.prog 22 #[v] w fun e w' => e = .returned (.string ⟨(hexB l).toArray⟩) ∧ Below w.heap.size w w' := by
  obtain ⟨i0, hi, hz0, hz1, hz2⟩ := info_parts infoU8
  obtain ⟨a, c, rfl⟩ := hr.slice
  have Hr := Lib.hid hr; clear hr
  go_enter Try.func22, Try.ntmps22
  go_wp2
  go_loopw [4, 5] (fun v4 v5 wr => ∃ k : Nat, k ≤ l.length ∧ v5 = .int .i64 (k : Int) ∧ wr.ownsRow w.heap.size 5 1 v4 (hexB (l.take k)).length (bvs (hexB (l.take k))) ∧ Below w.heap.size w wr)
    (fun _ v _ => l.length - (intOf v).toNat)
  case atStart => exact ⟨0, Nat.zero_le _, rfl, by simpa [hexB, bvs] using World.ownsRow_nil _ _ _ _, Below.refl _ _⟩
  case round =>
    obtain ⟨k, hk, rfl, ho, hb⟩ := hrel
    obtain ⟨a3, c3, rfl⟩ := own_slice ho
    have Ho := Lib.hid ho; clear ho
    have Hb := Lib.hid hb; clear hb
    by_cases hlt : k < l.length
    · rcases Hr.out.fresh Hb.out with ⟨_, ⟨he, h0⟩ | ⟨ad, c', he, _, _, hcell⟩⟩
      · omega
      simp only [Value.slice.injEq, true_and] at he
      obtain ⟨rfl, rfl⟩ := he
      obtain ⟨x, hx⟩ : ∃ x, x = l[k]'hlt := ⟨_, rfl⟩
      have hcs : ∀ wz, Below w.heap.size w wz → wz.cell? (ad.add k) = some (bv x) := by
        intro wz hz
        rcases Hr.out.fresh hz with ⟨_, ⟨he, h0⟩ | ⟨ad', c', he, _, _, hcell'⟩⟩
        · omega
        simp only [Value.slice.injEq, Option.some.injEq, true_and] at he
        obtain ⟨rfl, _⟩ := he
        exact hcell' k (bv x) (by rw [hx]; simp [bvs, hlt])
      have Hcs := Lib.hid hcs; clear hcs
      have hx8 := x.toNat_lt
      obtain ⟨xn, hxn⟩ : ∃ xn, xn = x.toNat := ⟨_, rfl⟩
      have hbx : bv x = .int .u8 (xn : Int) := by rw [hxn]; rfl
      rw [← hxn] at hx8
      have Hx := Lib.hid hx
      have Hxn := Lib.hid hxn
      have Hbx := Lib.hid hbx
      have hS0 : wr.drew.cell? (ad.add k) = some (.int .u8 (xn : Int)) := by rw [← Hbx.out]; exact Hcs.out wr Hb.out
      clear hx hxn hbx hcell
      go_wp2_with fail
      refine pl_start 18 rfl (fun w' => w'.cell? (ad.add k) = some (.int .u8 (xn : Int))) (by kernel_rfl) ?_
      refine pl_take (i := 0) 12 rfl rfl rfl (by kernel_rfl) (by kernel_rfl) (by kernel_rfl) (by simp [Act.put]) hS0 ?_
      apply Exists.intro
      refine And.intro (fun w' hS => ?_) ?_
      · go_wp2
        exact ⟨trivial, rfl⟩
      refine pl_take (i := 1) 13 rfl rfl rfl (by kernel_rfl) (by kernel_rfl) (by kernel_rfl) (by simp [Act.put]) hS0 ?_
      apply Exists.intro
      refine And.intro (fun w' hS => ?_) ?_
      · go_wp2
        exact ⟨trivial, rfl⟩
      refine pl_take (i := 2) 14 rfl rfl rfl (by kernel_rfl) (by kernel_rfl) (by kernel_rfl) (by simp [Act.put]) hS0 ?_
      apply Exists.intro
      refine And.intro (fun w' hS => ?_) ?_
      · go_wp2
        exact ⟨trivial, rfl⟩
      refine pl_take (i := 3) 15 rfl rfl rfl (by kernel_rfl) (by kernel_rfl) (by kernel_rfl) (by simp [Act.put]) hS0 ?_
      apply Exists.intro
      refine And.intro (fun w' hS => ?_) ?_
      · go_wp2
        exact ⟨trivial, rfl⟩
      refine pl_take (i := 4) 16 rfl rfl rfl (by kernel_rfl) (by kernel_rfl) (by kernel_rfl) (by simp [Act.put]) hS0 ?_
      apply Exists.intro
      refine And.intro (fun w' hS => ?_) ?_
      · go_wp2
        exact ⟨trivial, rfl⟩
      refine pl_take (i := 5) 17 rfl rfl rfl (by kernel_rfl) (by kernel_rfl) (by kernel_rfl) (by simp [Act.put]) hS0 ?_
      apply Exists.intro
      refine And.intro (fun w' hS => ?_) ?_
      · go_wp2
        exact ⟨trivial, rfl⟩
      refine pl_take (i := 6) 18 rfl rfl rfl (by kernel_rfl) (by kernel_rfl) (by kernel_rfl) (by simp [Act.put]) hS0 ?_
      apply Exists.intro
      refine And.intro (fun w' hS => ?_) ?_
      · go_wp2
        exact ⟨trivial, rfl⟩
      refine pl_take (i := 7) 19 rfl rfl rfl (by kernel_rfl) (by kernel_rfl) (by kernel_rfl) (by simp [Act.put]) hS0 ?_
      apply Exists.intro
      refine And.intro (fun w' hS => ?_) ?_
      · refine wpList_index rfl 9 (.tmp 13) (.tmp 18) rfl (.int .u8 ((hexD (xn / 16)).toNat : Int)) (run_digit' 9 Try.underlying9 _ (xn / 16) (by simp) (by omega) w') ?_
        go_wp2
        exact ⟨trivial, rfl⟩
      refine pl_take (i := 8) 20 rfl rfl rfl (by kernel_rfl) (by kernel_rfl) (by kernel_rfl) (by simp [Act.put]) hS0 ?_
      apply Exists.intro
      refine And.intro (fun w' hS => ?_) ?_
      · go_wp2
        exact ⟨trivial, rfl⟩
      refine pl_take (i := 9) 21 rfl rfl rfl (by kernel_rfl) (by kernel_rfl) (by kernel_rfl) (by simp [Act.put]) hS0 ?_
      apply Exists.intro
      refine And.intro (fun w' hS => ?_) ?_
      · go_wp2
        exact ⟨trivial, rfl⟩
      refine pl_take (i := 10) 22 rfl rfl rfl (by kernel_rfl) (by kernel_rfl) (by kernel_rfl) (by simp [Act.put]) hS0 ?_
      apply Exists.intro
      refine And.intro (fun w' hS => ?_) ?_
      · go_wp2
        exact ⟨trivial, rfl⟩
      refine pl_take (i := 11) 23 rfl rfl rfl (by kernel_rfl) (by kernel_rfl) (by kernel_rfl) (by simp [Act.put]) hS0 ?_
      apply Exists.intro
      refine And.intro (fun w' hS => ?_) ?_
      · go_wp2
        exact ⟨trivial, rfl⟩
      refine pl_take (i := 12) 24 rfl rfl rfl (by kernel_rfl) (by kernel_rfl) (by kernel_rfl) (by simp [Act.put]) hS0 ?_
      apply Exists.intro
      refine And.intro (fun w' hS => ?_) ?_
      · go_wp2
        exact ⟨trivial, rfl⟩
      refine pl_take (i := 13) 25 rfl rfl rfl (by kernel_rfl) (by kernel_rfl) (by kernel_rfl) (by simp [Act.put]) hS0 ?_
      apply Exists.intro
      refine And.intro (fun w' hS => ?_) ?_
      · go_wp2
        exact ⟨trivial, rfl⟩
      refine pl_take (i := 14) 26 rfl rfl rfl (by kernel_rfl) (by kernel_rfl) (by kernel_rfl) (by simp [Act.put]) hS0 ?_
      apply Exists.intro
      refine And.intro (fun w' hS => ?_) ?_
      · refine wpList_index rfl 9 (.tmp 20) (.tmp 25) rfl (.int .u8 ((hexD (xn % 16)).toNat : Int)) (run_digit' 9 Try.underlying9 _ (xn % 16) (by simp) (by omega) w') ?_
        go_wp2
        exact ⟨trivial, rfl⟩
      refine pl_heavy (i := 15) rfl (by kernel_rfl) ?_
      go_wp2
      obtain ⟨w2, hw2, hbb, hbl2⟩ : ∃ w2, w2 = wr.drew.alloc (.cells (bvs [hexD (xn / 16), hexD (xn % 16)]).toArray 5) ∧ BB w2 5 wr.heap.size [hexD (xn / 16), hexD (xn % 16)] ∧ Below wr.heap.size wr w2 :=
        ⟨_, rfl, BB.new wr.drew _ _, ((Below.refl _ wr).drew.alloc (Nat.le_refl _) _)⟩
      have hS2 : w2.cell? (ad.add k) = some (.int .u8 (xn : Int)) := by rw [← Hbx.out]; exact Hcs.out w2 (Hb.out.trans (hbl2.mono Hb.out.size))
      refine And.intro (by rw [hw2] at hS2; exact hS2) ?_
      change wpAnyH _ _ _ _ _ _ _ _ (wr.drew.alloc (.cells (bvs [hexD (xn / 16), hexD (xn % 16)]).toArray 5))
      rw [← hw2]
      clear hw2
      refine pl_heavy (i := 16) rfl (by kernel_rfl) ?_
      refine wpList_append_rd _ rfl (.tmp 12) (.tmp 27) 25 rfl w.heap.size 5 i0 (.int .u8 0) 1 1 Try.underlying25 hi hz0 hz1 hz2 rfl (by decide) (.slice a3 (hexB (l.take k)).length c3) (hexB (l.take k)).length (bvs (hexB (l.take k))) rfl (own_fresh Ho.out hbl2) (.slice (some ⟨wr.heap.size, 0, none⟩) 2 2) 2 (bvs [hexD (xn / 16), hexD (xn % 16)]) rfl (hbb.rdAll (by simp [maxLen])) (bvs_one _) (by rw [hexB_length]; simp [maxLen]; omega) (by rw [hexB_length]; simp; omega) (by have := Hb.out.size; have := hbl2.size; omega) ?_
      intro v' w3 hown3 hgr3 _ _
      have B3 : Hid (Below w.heap.size w w3) := (Hb.out.trans (hbl2.mono Hb.out.size)).grown hgr3 (by have := Hb.out.size; have := hbl2.size; omega) (fun j hj => (Ho.out.lt j hj).1)
      have hlen : (hexB (l.take k)).length + 2 = (hexB (l.take (k + 1))).length ∧ bvs (hexB (l.take k)) ++ bvs [hexD (xn / 16), hexD (xn % 16)] = bvs (hexB (l.take (k + 1))) := by
        rw [hexB_take l k hlt, ← Hx.out, ← Hxn.out]
        simp
      rw [hlen.1, hlen.2] at hown3
      have Ho3 := Lib.hid hown3
      have hS3 : Hid (w3.cell? (ad.add k) = some (.int .u8 (xn : Int))) := by
        have : w3.cell? (ad.add k) = some (.int .u8 (xn : Int)) := by rw [← Hbx.out]; exact Hcs.out w3 B3.out
        exact this
      clear hown3 hgr3 hbb hbl2 hlen hS2 hS0
      go_wp2
      refine And.intro hS3.out ?_
      refine pl_heavy (i := 17) rfl (by kernel_rfl) ?_
      go_wp2
      refine And.intro hS3.out ?_
      refine pl_done (by kernel_rfl) ?_
      go_wp2
      go_roundw
      case rel => exact ⟨k + 1, by omega, by go_num, Ho3.out, B3.out⟩
      case measure => simp [intOf]; omega
    · have hkl : k = l.length := by omega
      subst hkl
      rw [List.take_of_length_le (Nat.le_refl _)] at Ho
      rw [List.take_of_length_le (Nat.le_refl _)]
      have hcv := Rd.conv (P := Try.prog) (Rd.of_own Ho.out) 25 9 5 Try.underlying25 Try.underlying5 Try.underlying9
      go_wp2
      go_ret
      exact ⟨rfl, Hb.out⟩

theorem hashText_any (w : World) (x : List UInt8) (hx : x.length = 32) :
    Calls Try.prog 23 #[.agg (bvs x).toArray] w fun e w' => e = .returned (.string ⟨(hexB x).toArray⟩) ∧ Below w.heap.size w w' := by
  go_enter Try.func23, Try.ntmps23
  go_wp2_with fail
  have hb1 := BB.new w 30 x
  refine (hex_any _ _ x (by have := hb1.rdAll (by rw [hx]; simp [maxLen]); rw [hx] at this; rw [hx]; exact this) (by omega)).mono ?_
  rintro e w2 ⟨rfl, b2⟩
  have B2 : Hid (Below w.heap.size w w2) := ((Below.refl _ w).alloc (Nat.le_refl _) _).trans (b2.mono (Nat.le_of_lt hb1.lt))
  clear b2 hb1
  go_wp2
  go_ret
  exact ⟨rfl, B2.out⟩
end Go.Proofs.Ytdljpgihfjpnjaa
