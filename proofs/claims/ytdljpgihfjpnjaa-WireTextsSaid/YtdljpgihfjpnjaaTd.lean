/- Bytes of digits: the reference's walk. -/
import Derived.Test.YtdljpgihfjpnjaaTc
namespace Go.Proofs.Ytdljpgihfjpnjaa
set_option linter.unusedVariables false
set_option linter.unusedSimpArgs false
open Go.RowKit Go.Lib

theorem digit_any (w : World) (x : UInt8) :
    Calls Try.prog 56 #[.int .u8 (x.toNat : Int)] w fun e w' => e = .returned (.int .u8 (digN x : Int)) ∧ w = w' := by
  have hx8 := x.toNat_lt
  obtain ⟨d, hd⟩ : ∃ d, d = digN x := ⟨_, rfl⟩
  rw [← hd]
  unfold digN at hd
  generalize x.toNat = n at *
  by_cases c1 : 48 ≤ n
  · by_cases c2 : n ≤ 57
    · rw [if_pos ⟨c1, c2⟩] at hd
      have Hd := Lib.hid hd; clear hd
      go_enter Try.func56, Try.ntmps56
      go_wp2
      go_ret
      exact ⟨ret_i (by have := Hd.out; omega), rfl⟩
    · rw [if_neg (by omega)] at hd
      by_cases c3 : 97 ≤ n
      · by_cases c4 : n ≤ 102
        · rw [if_pos ⟨c3, c4⟩] at hd
          have Hd := Lib.hid hd; clear hd
          go_enter Try.func56, Try.ntmps56
          go_wp2
          go_ret
          exact ⟨ret_i (by have := Hd.out; omega), rfl⟩
        · rw [if_neg (by omega)] at hd
          have Hd := Lib.hid hd; clear hd
          go_enter Try.func56, Try.ntmps56
          go_wp2
          go_ret
          exact ⟨ret_i (by have := Hd.out; omega), rfl⟩
      · rw [if_neg (by omega)] at hd
        have Hd := Lib.hid hd; clear hd
        go_enter Try.func56, Try.ntmps56
        go_wp2
        go_ret
        exact ⟨ret_i (by have := Hd.out; omega), rfl⟩
  · have c3 : ¬ 97 ≤ n := by omega
    rw [if_neg (by omega), if_neg (by omega)] at hd
    have Hd := Lib.hid hd; clear hd
    go_enter Try.func56, Try.ntmps56
    go_wp2
    go_ret
    exact ⟨ret_i (by have := Hd.out; omega), rfl⟩

theorem run_index_str {P : Program} (t : TypeId) (ht : P.underlying t = some .string) (s : List UInt8) (T : ByteArray) (hT : T = ⟨s.toArray⟩) (p : Nat) (hp : p < s.length) (i : Int) (hi : i = (p : Int)) (w : World) :
    (Instr.index t (.string T) (.int .i64 i)).run P w = .ok (.int .u8 ((s[p]'hp).toNat : Int)) w := by
  subst hT hi
  rw [run_index_string w t _ .i64 (p : Int) ht, dif_pos ⟨by omega, by rw [bsize]; omega⟩]
  rfl

set_option maxRecDepth 100000 in
set_option maxHeartbeats 400000 in
theorem rofHex_any (w : World) (s : List UInt8) (hn : s.length ≤ 1000000) :
    Calls Try.prog 18 #[.string ⟨s.toArray⟩] w (HexPost w s (.bool false) (.bool true)) := by
  obtain ⟨i0, hi, hz0, hz1, hz2⟩ := info_parts infoU8
  obtain ⟨T, hT⟩ : ∃ T : ByteArray, T = ⟨s.toArray⟩ := ⟨_, rfl⟩
  have hTs : T.size = s.length := by rw [hT]; exact bsize s
  rw [← hT]
  have HT := Lib.hid hT; clear hT
  rcases Nat.mod_two_eq_zero_or_one s.length with hpar | hpar
  · go_enter Try.func18, Try.ntmps18
    have Hpar := Lib.hid hpar
    have hq : ((s.length : Int) % 2 != 0) = false := by simp; omega
    clear hpar
    go_wp2
    go_loopw [4, 5] (fun v4 v5 wr => ∃ k : Nat, 2 * k ≤ s.length ∧ v5 = .int .i64 ((2 * k : Nat) : Int) ∧ wr.ownsRow w.heap.size 5 1 v4 (pairs ((s.take (2 * k)).map digN)).length (bvs (pairs ((s.take (2 * k)).map digN))) ∧ allDig (s.take (2 * k)) = true ∧ Below w.heap.size w wr)
      (fun _ v _ => s.length - (intOf v).toNat)
    case atStart => exact ⟨0, Nat.zero_le _, rfl, by simpa [pairs, bvs] using World.ownsRow_nil _ _ _ _, rfl, Below.refl _ _⟩
    case round =>
      obtain ⟨k, hk, rfl, ho, had, hb⟩ := hrel
      obtain ⟨a4, c4, rfl⟩ := own_slice ho
      obtain ⟨R, hR⟩ : ∃ R, R = pairs ((s.take (2 * k)).map digN) := ⟨_, rfl⟩
      rw [← hR] at ho
      rw [← hR]
      have hRl : R.length = k := by rw [hR, pairs_length]; simp; omega
      have HR := Lib.hid hR; clear hR
      have HRl := Lib.hid hRl; clear hRl
      have Ho := Lib.hid ho; clear ho
      have Had := Lib.hid had; clear had
      have Hb := Lib.hid hb; clear hb
      by_cases hlt : 2 * k < s.length
      · have hlt1 : 2 * k + 1 < s.length := by have := Hpar.out; omega
        obtain ⟨x, hx⟩ : ∃ x, x = s[2 * k]'hlt := ⟨_, rfl⟩
        obtain ⟨y, hy⟩ : ∃ y, y = s[2 * k + 1]'hlt1 := ⟨_, rfl⟩
        have Hx := Lib.hid hx; clear hx
        have Hy := Lib.hid hy; clear hy
        obtain ⟨dx, hdx⟩ : ∃ dx, dx = digN x := ⟨_, rfl⟩
        obtain ⟨dy, hdy⟩ : ∃ dy, dy = digN y := ⟨_, rfl⟩
        have D1 := Lib.hid (digit_any wr.drew x)
        have D2 := Lib.hid (digit_any wr.drew y)
        rw [← hdx] at D1
        rw [← hdy] at D2
        have hdx16 : dx ≤ 16 := by rw [hdx]; exact digN_le x
        have hdy16 : dy ≤ 16 := by rw [hdy]; exact digN_le y
        have Hdx := Lib.hid hdx
        have Hdy := Lib.hid hdy
        clear hdx hdy
        go_wp2_with fail
        refine pl_start 11 rfl (fun _ => True) (by kernel_rfl) ?_
        refine pl_take (i := 0) 18 rfl rfl rfl (by kernel_rfl) (by kernel_rfl) (by kernel_rfl) (by simp [Act.put]) trivial ?_
        apply Exists.intro
        refine And.intro (fun w' hS => ?_) ?_
        · go_wp2
          exact ⟨trivial, rfl⟩
        refine pl_take (i := 1) 19 rfl rfl rfl (by kernel_rfl) (by kernel_rfl) (by kernel_rfl) (by simp [Act.put]) trivial ?_
        apply Exists.intro
        refine And.intro (fun w' hS => ?_) ?_
        · go_wp2
          exact ⟨trivial, rfl⟩
        refine pl_take (i := 2) 20 rfl rfl rfl (by kernel_rfl) (by kernel_rfl) (by kernel_rfl) (by simp [Act.put]) trivial ?_
        apply Exists.intro
        refine And.intro (fun w' hS => ?_) ?_
        · refine wpList_index rfl 9 _ (.tmp 19) rfl (.int .u8 (x.toNat : Int)) (by rw [Hx.out]; exact run_index_str 9 Try.underlying9 s T HT.out (2 * k) (by omega) _ (by simp) w') ?_
          go_wp2
          exact ⟨trivial, rfl⟩
        refine pl_take (i := 4) 22 rfl rfl rfl (by kernel_rfl) (by kernel_rfl) (by kernel_rfl) (by simp [Act.put]) trivial ?_
        apply Exists.intro
        refine And.intro (fun w' hS => ?_) ?_
        · go_wp2
          exact ⟨trivial, rfl⟩
        refine pl_take (i := 5) 23 rfl rfl rfl (by kernel_rfl) (by kernel_rfl) (by kernel_rfl) (by simp [Act.put]) trivial ?_
        apply Exists.intro
        refine And.intro (fun w' hS => ?_) ?_
        · go_wp2
          exact ⟨trivial, rfl⟩
        refine pl_take (i := 6) 24 rfl rfl rfl (by kernel_rfl) (by kernel_rfl) (by kernel_rfl) (by simp [Act.put]) trivial ?_
        apply Exists.intro
        refine And.intro (fun w' hS => ?_) ?_
        · go_wp2
          exact ⟨trivial, rfl⟩
        refine pl_take (i := 7) 25 rfl rfl rfl (by kernel_rfl) (by kernel_rfl) (by kernel_rfl) (by simp [Act.put]) trivial ?_
        apply Exists.intro
        refine And.intro (fun w' hS => ?_) ?_
        · refine wpList_index rfl 9 _ (.tmp 24) rfl (.int .u8 (y.toNat : Int)) (by rw [Hy.out]; exact run_index_str 9 Try.underlying9 s T HT.out (2 * k + 1) (by omega) _ (by simp) w') ?_
          go_wp2
          exact ⟨trivial, rfl⟩
        refine pl_heavy (i := 3) rfl (by kernel_rfl) ?_
        go_wp2_with fail
        refine D1.out.mono ?_
        rintro e w2 ⟨rfl, rfl⟩
        go_wp2
        refine And.intro trivial ?_
        refine pl_heavy (i := 8) rfl (by kernel_rfl) ?_
        go_wp2_with fail
        refine D2.out.mono ?_
        rintro e w2 ⟨rfl, rfl⟩
        go_wp2
        refine And.intro trivial ?_
        refine pl_heavy (i := 9) rfl (by kernel_rfl) ?_
        go_wp2
        refine And.intro trivial ?_
        refine pl_heavy (i := 10) rfl (by kernel_rfl) ?_
        go_wp2
        refine And.intro trivial ?_
        refine pl_done (by kernel_rfl) ?_
        clear D1 D2
        have hbd : Hid (Below w.heap.size w wr.drew) := Hb.out.drew
        by_cases c1 : dx < 16
        · by_cases c2 : dy < 16
          · go_wp2_with (at_builtin; apply Stop.mk)
            refine Stop.go ?_
            have hzv : Value.int .u8 (16 * (dx : Int) + (dy : Int)) = bv (UInt8.ofNat (16 * dx + dy)) := bv_dig _ _ (by omega) (by omega)
            rw [hzv]
            have hbb : BB (wr.alloc (.cells (bvs [UInt8.ofNat (16 * dx + dy)]).toArray 5)).drew 5 wr.heap.size [UInt8.ofNat (16 * dx + dy)] := BB.new wr _ _
            have hbl2 : Below wr.heap.size wr (wr.alloc (.cells (bvs [UInt8.ofNat (16 * dx + dy)]).toArray 5)).drew := ((Below.refl _ wr).alloc (Nat.le_refl _) _).drew
            change wpList _ _ _ _ _ (wr.alloc (.cells (bvs [UInt8.ofNat (16 * dx + dy)]).toArray 5)).drew
            obtain ⟨w2, hw2⟩ : ∃ w2, w2 = (wr.alloc (.cells (bvs [UInt8.ofNat (16 * dx + dy)]).toArray 5)).drew := ⟨_, rfl⟩
            rw [← hw2] at hbb hbl2
            rw [← hw2]
            have hsz2 := hbl2.size
            have hbsz := Hb.out.size
            refine wpList_append_rd _ rfl (.tmp 33) (.tmp 38) 25 rfl w.heap.size 5 i0 (.int .u8 0) 1 1 Try.underlying25 hi hz0 hz1 hz2 rfl (by decide) (.slice a4 R.length c4) R.length (bvs R) rfl (own_fresh Ho.out hbl2) (.slice (some ⟨wr.heap.size, 0, none⟩) 1 1) 1 (bvs [UInt8.ofNat (16 * dx + dy)]) rfl (hbb.rdAll (by simp [maxLen])) (bvs_one _) (by rw [HRl.out]; simp [maxLen]; omega) (by rw [HRl.out]; omega) (by omega) ?_
            intro v' w3 hown3 hgr3 _ _
            have B3 : Hid (Below w.heap.size w w3) := (Hb.out.trans (hbl2.mono hbsz)).grown hgr3 (by omega) (fun j hj => (Ho.out.lt j hj).1)
            have hstep := pairs_step s k hlt1
            rw [← HR.out, ← Hx.out, ← Hy.out, ← Hdx.out, ← Hdy.out] at hstep
            have O3 : Hid (w3.ownsRow w.heap.size 5 1 v' (pairs ((s.take (2 * (k + 1))).map digN)).length (bvs (pairs ((s.take (2 * (k + 1))).map digN)))) := by
              rw [hstep]
              refine Lib.hid ?_
              rw [bvs_append, List.length_append]
              exact hown3
            have A3 : Hid (allDig (s.take (2 * (k + 1))) = true) := by
              have h1 := allDig_take s (2 * k) hlt Had.out (by rw [← Hx.out, ← Hdx.out]; exact c1)
              exact allDig_take s (2 * k + 1) hlt1 h1 (by rw [← Hy.out, ← Hdy.out]; exact c2)
            clear hown3 hgr3 hbb hbl2 hw2 hzv hstep
            go_wp2
            go_roundw
            case rel => exact ⟨k + 1, by omega, by go_num, O3.out, A3.out, B3.out⟩
            case measure => simp [intOf]; omega
          · have Hof : Hid (ofHexB s = none) := ofHexB_bad s (2 * k + 1) hlt1 (by rw [← Hy.out, ← Hdy.out]; exact c2)
            go_wp2
            go_ret2
            exact ⟨_, _, rfl, hbd.out, .inl ⟨Hof.out, rfl, rfl⟩⟩
        · have Hof : Hid (ofHexB s = none) := ofHexB_bad s (2 * k) hlt (by rw [← Hx.out, ← Hdx.out]; exact c1)
          go_wp2
          go_ret2
          exact ⟨_, _, rfl, hbd.out, .inl ⟨Hof.out, rfl, rfl⟩⟩
      · have hkk : 2 * k = s.length := by omega
        have hTs2 : T.size = s.length := hTs
        rw [hkk, List.take_of_length_le (Nat.le_refl _)] at HR Had
        have Hof : Hid (ofHexB s = some R) := by rw [HR.out]; exact ofHexB_good s Hpar.out Had.out
        go_wp2
        go_ret2
        exact ⟨_, _, rfl, Hb.out, .inr ⟨_, Hof.out, rfl, Rd.of_own Ho.out⟩⟩
  · have Hof : Hid (ofHexB s = none) := ofHexB_odd s (by omega)
    go_enter Try.func18, Try.ntmps18
    go_wp2
    go_ret2
    exact ⟨_, _, rfl, Below.refl _ _, .inl ⟨Hof.out, rfl, rfl⟩⟩
end Go.Proofs.Ytdljpgihfjpnjaa
