/- Writers and readers that are not there. -/
import Derived.Test.YtdljpgihfjpnjaaRt
import Derived.Test.YtdljpgihfjpnjaaPlan
namespace Go.Proofs.Ytdljpgihfjpnjaa
set_option linter.unusedVariables false
set_option linter.unusedSimpArgs false
open Go.RowKit

theorem put_nil (w : World) (v2 : Value) (good : Bool) :
    Calls Try.prog 58 #[.pointer none, v2, .bool good] w fun e w' => e = .returned (.pointer none) ∧ w = w' := by
  go_enter Try.func58, Try.ntmps58
  go_wp2
  go_ret
  exact ⟨rfl, rfl⟩

theorem Bytes_nil (w : World) (v2 : Value) :
    Calls Try.prog 52 #[.pointer none, v2] w fun e w' => e = .returned (.pointer none) ∧ w = w' := by
  go_enter Try.func52, Try.ntmps52
  go_wp2_with fail
  refine (put_nil w v2 true).mono ?_
  rintro e w' ⟨rfl, rfl⟩
  go_wp2
  go_ret
  exact ⟨rfl, rfl⟩

theorem Number_nil (w : World) (m : Nat) (hm : m < 18446744073709551616) (s : Int) :
    Calls Try.prog 24 #[.pointer none, .int .u64 (m : Int), .int .i64 s] w fun e w' => e = .returned (.pointer none) ∧ Below w.heap.size w w' := by
  cases hs : okSize s with
  | false =>
    go_enter Try.func24, Try.ntmps24
    go_wp2_with fail
    refine (whole_any s w).mono ?_
    rintro e w' ⟨rfl, rfl⟩
    go_wp2_with fail
    refine (put_nil w _ false).mono ?_
    rintro e w' ⟨rfl, rfl⟩
    go_wp2
    go_ret
    exact ⟨rfl, Below.refl _ _⟩
  | true =>
    by_cases hlt : m < 2 ^ (8 * s.toNat)
    · rcases okSize_cases hs with rfl | rfl | rfl | rfl
      all_goals
        simp only [Int.reduceToNat, Nat.reduceMul, Nat.reducePow] at hlt
        have H := Lib.hid hs; clear hs
        go_enter Try.func24, Try.ntmps24
        go_wp2_with fail
        refine (whole_any _ w).mono ?_
        rintro e w' ⟨rfl, rfl⟩
        rw [H.out]
        go_wp2_with fail
        refine (number_any w m _ (by decide) (by decide)).mono ?_
        rintro e w' ⟨rfl, hbb, hbl⟩
        have Hbl := Lib.hid hbl; clear hbl hbb
        go_wp2_with fail
        refine (put_nil w' _ true).mono ?_
        rintro e w' ⟨rfl, rfl⟩
        go_wp2
        go_ret
        exact ⟨rfl, Hbl.out⟩
    · rcases okSize_cases hs with rfl | rfl | rfl | rfl
      all_goals
        simp only [Int.reduceToNat, Nat.reduceMul, Nat.reducePow] at hlt
        have H := Lib.hid hs; clear hs
        first
          | omega
          | go_enter Try.func24, Try.ntmps24
            go_wp2_with fail
            refine (whole_any _ w).mono ?_
            rintro e w' ⟨rfl, rfl⟩
            rw [H.out]
            go_wp2_with fail
            refine (put_nil w _ false).mono ?_
            rintro e w' ⟨rfl, rfl⟩
            go_wp2
            go_ret
            exact ⟨rfl, Below.refl _ _⟩

theorem Blob_nil (w : World) (a : Option Addr) (n c : Nat) (hn : n ≤ 1099511627776) :
    Calls Try.prog 25 #[.pointer none, .slice a n c] w fun e w' => e = .returned (.pointer none) ∧ Below w.heap.size w w' := by
  by_cases hc : n ≤ 16777216
  · go_enter Try.func25, Try.ntmps25
    go_wp2_with fail
    refine (Number_nil w n (by omega) 4).mono ?_
    rintro e w' ⟨rfl, hb⟩
    have Hb := Lib.hid hb; clear hb
    go_wp2_with fail
    refine (Bytes_nil w' _).mono ?_
    rintro e w' ⟨rfl, rfl⟩
    go_wp2
    go_ret
    exact ⟨rfl, Hb.out⟩
  · go_enter Try.func25, Try.ntmps25
    go_wp2_with fail
    refine (put_nil w _ false).mono ?_
    rintro e w' ⟨rfl, rfl⟩
    go_wp2
    go_ret
    exact ⟨rfl, Below.refl _ _⟩

/-- There is no reader. -/
def Off (w : World) (v : Value) : Prop := v = .pointer none ∨ ∃ r, v = .pointer (some ⟨r, 0, none⟩) ∧ r < w.heap.size ∧ w.cell? ⟨r, 2, none⟩ = some (.bool false)

theorem Off.fresh {w w' : World} {v : Value} (h : Off w v) (hb : Below w.heap.size w w') : Off w' v := by
  rcases h with rfl | ⟨r, rfl, hr, hc⟩
  · exact .inl rfl
  · exact .inr ⟨r, rfl, Nat.lt_of_lt_of_le hr hb.size, (World.cell?_of_block (w := w) (a := ⟨r, 2, none⟩) (hb.block r hr)).trans hc⟩

theorem there_off (w : World) (v : Value) (h : Hid (Off w v)) :
    Calls Try.prog 61 #[v] w fun e w' => e = .returned (.bool false) ∧ w = w' := by
  rcases h.out with rfl | ⟨r, rfl, _, hc⟩
  · exact there_nil w
  · exact there_no w r hc

set_option maxRecDepth 100000 in
theorem cut_off (w : World) (v : Value) (h : Hid (Off w v)) (n : Int) :
    Calls Try.prog 60 #[v, .int .i64 n] w fun e w' => e = .returned (.slice none 0 0) ∧ w = w' := by
  go_enter Try.func60, Try.ntmps60
  go_wp2_with fail
  refine wp_scope_go 0 rfl ?_
  go_wp2_with fail
  refine (there_off w v h).mono ?_
  rintro e w' ⟨rfl, rfl⟩
  go_wp2
  refine wp_goto ?_
  refine And.intro rfl ?_
  go_wp2
  simp only [Exit.jump]
  go_ret
  exact ⟨rfl, rfl⟩

theorem rbytes_off (w : World) (v : Value) (h : Hid (Off w v)) (n : Int) :
    Calls Try.prog 31 #[v, .int .i64 n] w fun e w' => e = .returned (.slice none 0 0) ∧ w = w' := by
  go_enter Try.func31, Try.ntmps31
  go_wp2_with fail
  refine (cut_off w v h n).mono ?_
  rintro e w' ⟨rfl, rfl⟩
  go_wp2
  go_ret
  exact ⟨rfl, rfl⟩

set_option maxRecDepth 100000 in
theorem rnumber_off (w : World) (v : Value) (h : Hid (Off w v)) (s : Int) :
    Calls Try.prog 30 #[v, .int .i64 s] w fun e w' => e = .returned (.int .u64 0) ∧ w = w' := by
  cases hs : okSize s
  all_goals
    go_enter Try.func30, Try.ntmps30
    go_wp2_with fail
    refine (whole_any s w).mono ?_
    rintro e w' ⟨rfl, rfl⟩
    rw [hs]
    clear hs
    go_wp2_with fail
    refine (cut_off w v h _).mono ?_
    rintro e w1 ⟨rfl, rfl⟩
    go_wp2
    go_loopw [5, 15] (fun v5 v15 wr => wr = w ∧ v15 = .int .i64 0 ∧ v5 = .int .u64 0) (fun _ v _ => 0)
    case atStart => exact ⟨rfl, rfl, rfl⟩
    case round =>
      obtain ⟨rfl, rfl, rfl⟩ := hrel
      go_wp2
      go_ret
      exact ⟨rfl, rfl⟩

theorem rcount_off (w : World) (v : Value) (h : Hid (Off w v)) :
    Calls Try.prog 32 #[v] w fun e w' => e = .returned (.int .i64 0) ∧ w = w' := by
  go_enter Try.func32, Try.ntmps32
  go_wp2_with fail
  refine (rnumber_off w v h 2).mono ?_
  rintro e w1 ⟨rfl, rfl⟩
  go_wp2
  go_ret
  exact ⟨rfl, rfl⟩

theorem rleft_off (w : World) (v : Value) (h : Hid (Off w v)) :
    Calls Try.prog 29 #[v] w fun e w' => e = .returned (.int .i64 0) ∧ w = w' := by
  go_enter Try.func29, Try.ntmps29
  go_wp2_with fail
  refine (there_off w v h).mono ?_
  rintro e w' ⟨rfl, rfl⟩
  go_wp2
  go_ret
  exact ⟨rfl, rfl⟩

theorem rend_off (w : World) (v : Value) (h : Hid (Off w v)) :
    Calls Try.prog 28 #[v] w fun e w' => e = .returned (.int .i64 1) ∧ w = w' := by
  go_enter Try.func28, Try.ntmps28
  go_wp2_with fail
  refine (there_off w v h).mono ?_
  rintro e w' ⟨rfl, rfl⟩
  go_wp2
  go_ret
  exact ⟨rfl, rfl⟩

set_option maxRecDepth 100000 in
theorem rhash_off (w : World) (v : Value) (h : Hid (Off w v)) :
    Calls Try.prog 33 #[v] w fun e w' => e = .returned (.agg (bvs (List.replicate 32 0)).toArray) ∧ Below w.heap.size w w' := by
  go_enter Try.func33, Try.ntmps33
  go_wp2_with fail
  obtain ⟨w0, hw0, hz, hr0, hb0⟩ : ∃ w0, w0 = w.alloc (.cells (bvs (List.replicate 32 0)).toArray 30) ∧ BB w0 30 w.heap.size (List.replicate 32 0) ∧ Hid (Off w0 v) ∧ Hid (Below w.heap.size w w0) :=
    ⟨_, rfl, BB.new w _ _, h.out.fresh ((Below.refl _ w).alloc (Nat.le_refl _) _), (Below.refl _ w).alloc (Nat.le_refl _) _⟩
  change Code.wp _ _ _ _ (w.alloc (.cells (bvs (List.replicate 32 0)).toArray 30))
  rw [← hw0]
  clear hw0 h
  refine pl_start 4 rfl (fun _ => True) (by kernel_rfl) ?_
  refine pl_take (i := 0) 3 rfl rfl rfl (by kernel_rfl) (by kernel_rfl) (by kernel_rfl) (by simp) trivial ?_
  apply Exists.intro
  refine And.intro (fun w' hS => ?_) ?_
  · go_wp2
    exact ⟨trivial, rfl⟩
  refine pl_take (i := 1) 4 rfl rfl rfl (by kernel_rfl) (by kernel_rfl) (by kernel_rfl) (by simp) trivial ?_
  apply Exists.intro
  refine And.intro (fun w' hS => ?_) ?_
  · go_wp2
    exact ⟨trivial, rfl⟩
  refine pl_heavy (i := 2) rfl (by kernel_rfl) ?_
  go_wp2_with fail
  refine (cut_off w0.drew v hr0 32).mono ?_
  rintro e w1 ⟨rfl, rfl⟩
  go_wp2
  refine And.intro trivial ?_
  refine pl_heavy (i := 3) rfl (by kernel_rfl) ?_
  refine wpList_copy_all rfl (.tmp 3) (.tmp 5) 25 25 rfl 5 Try.underlying25 sizeU8 w.heap.size 32 32 30 (List.replicate 32 0) [] (.slice none 0 0) _ rfl rfl rfl (show BB w0.drew 30 w.heap.size (List.replicate 32 0) from hz) (Rd.nil _ _) ?_
  intro w2 hb2 ho2
  go_wp2
  refine And.intro trivial ?_
  refine pl_done (by kernel_rfl) ?_
  have M2 : Hid (Below w.heap.size w w2) := Below.only hb0.out.drew ho2 (Nat.le_refl _)
  have hcon : List.take 32 ([] : List UInt8) ++ List.drop (Nat.min 0 32) (List.replicate 32 0) = List.replicate 32 (0 : UInt8) := rfl
  have hb3 : BB w2 30 w.heap.size (List.replicate 32 0) := hb2
  clear ho2 hz hr0 hb0 hb2 hcon
  obtain ⟨x, hx, hlen⟩ : ∃ x : List UInt8, x = List.replicate 32 0 ∧ x.length = 32 := ⟨_, rfl, rfl⟩
  rw [← hx] at hb3
  have Hx := Lib.hid hx; clear hx
  have hb2 := hb3; clear hb3
  go_wp2_with (with_reducible refine stopAt 7 ?_)
  refine Stop.go ?_
  refine wpList_load_agg rfl 30 (.tmp 2) rfl ⟨w.heap.size, 0, none⟩ rfl (bvs x) _ (At.block hb2).load Try.underlying30 rfl (by rw [bvs_length, hlen]; exact infoHash) ?_
  go_wp2_with (with_reducible refine stopStore 30 ?_)
  refine Stop.go ?_
  refine wpList_store_var rfl 30 (.tmp 2) (.tmp 7) rfl w.heap.size _ rfl _ (bvs x) rfl hb2 (by simp) (bvs_one _) (by rw [bvs_length, hlen]; exact infoHash) ?_
  intro w3 hb3 ho3
  have M3 : Hid (Below w.heap.size w w3) := Below.only M2.out ho3 (Nat.le_refl _)
  clear ho3
  go_wp2
  exact bodyPost_ret (results_cell_row rfl _ _ w.heap.size _ _ _ _ rfl hb3 Try.underlying30 rfl (by simp [hlen, infoHash])) rfl ⟨by rw [Hx.out], M3.out⟩
end Go.Proofs.Ytdljpgihfjpnjaa
