/- Bytes of digits: the walks. -/
import Derived.Test.YtdljpgihfjpnjaaTb
import Derived.WalkSmall
import Derived.Laws.RangeAny
namespace Go.Proofs.Ytdljpgihfjpnjaa
set_option linter.unusedVariables false
set_option linter.unusedSimpArgs false
open Go.RowKit Go.Lib

def HexPost (w : World) (s : List UInt8) (bad : Value) (good : Value) (e : Ending) (w' : World) : Prop :=
  ∃ v' u', e = .returned (.tuple #[v', u']) ∧ Below w.heap.size w w' ∧ ((ofHexB s = none ∧ v' = .slice none 0 0 ∧ u' = bad) ∨ ∃ y, ofHexB s = some y ∧ u' = good ∧ Rd w' 1 v' y.length (bvs y))

theorem bsize (s : List UInt8) : (⟨s.toArray⟩ : ByteArray).size = s.length := by simp [ByteArray.size]

theorem bget (s : List UInt8) (p : Nat) (h : p < (⟨s.toArray⟩ : ByteArray).size) : (⟨s.toArray⟩ : ByteArray)[p]'h = s[p]'(by rw [bsize] at h; exact h) := by
  rfl

theorem bits_dig : ∀ a b : Fin 16, bits BinOp.or IntKind.u8 (16 * (a.val : Int)) (b.val : Int) = ((16 * a.val + b.val : Nat) : Int) := by decide +kernel

theorem bits_dig' (a b : Nat) (z : Int) (ha : a < 16) (hb : b < 16) (hz : z = (b : Int)) : bits BinOp.or IntKind.u8 (16 * (a : Int)) z = ((16 * a + b : Nat) : Int) := by
  subst hz
  exact bits_dig ⟨a, ha⟩ ⟨b, hb⟩

theorem bv_dig (z : Int) (k : Nat) (hk : k < 256) (h : z = (k : Int)) : Value.int .u8 z = bv (UInt8.ofNat k) := by
  rw [bv_ofNat, h]
  congr 1
  omega

/-- What a rune of a text at a place is that is no digit. -/
theorem rune_bad (s : List UInt8) (p : Nat) (h : p < s.length) (hd : ¬ digN (s[p]'h) < 16) :
    ¬ (48 ≤ (Utf8.decode ⟨s.toArray⟩ p).1 ∧ (Utf8.decode ⟨s.toArray⟩ p).1 ≤ 57) ∧ ¬ (97 ≤ (Utf8.decode ⟨s.toArray⟩ p).1 ∧ (Utf8.decode ⟨s.toArray⟩ p).1 ≤ 102) := by
  have hp : p < (⟨s.toArray⟩ : ByteArray).size := by rw [bsize]; exact h
  by_cases ha : (s[p]'h).toNat < 128
  · have := decode_ascii ⟨s.toArray⟩ p hp (by rw [bget]; exact ha)
    rw [this, bget]
    simp only
    unfold digN at hd
    split at hd
    · omega
    · split at hd <;> omega
  · have := decode_high ⟨s.toArray⟩ p hp (by rw [bget]; omega)
    omega

set_option maxRecDepth 100000 in
set_option maxHeartbeats 400000 in
theorem ofHex_any (w : World) (s : List UInt8) (hn : s.length ≤ 1000000) :
    Calls Try.prog 17 #[.string ⟨s.toArray⟩] w (HexPost w s (.int .i64 4) (.int .i64 0)) := by
  obtain ⟨i0, hi, hz0, hz1, hz2⟩ := info_parts infoU8
  obtain ⟨T, hT⟩ : ∃ T : ByteArray, T = ⟨s.toArray⟩ := ⟨_, rfl⟩
  have hTs : T.size = s.length := by rw [hT]; exact bsize s
  rw [← hT]
  have HT := Lib.hid hT; clear hT
  have HTs := Lib.hid hTs; clear hTs
  go_enter Try.func17, Try.ntmps17
  go_wp2
  have hb0 : Hid (Below w.heap.size w (w.iter T 0)) := (Below.refl _ w).alloc (Nat.le_refl _) _
  have hi0 : Hid ((w.iter T 0).heap[w.heap.size]? = some (.stringIter T 0)) := World.iter_heap w T 0
  go_loopw [4] (fun v4 wr => ∃ p : Nat, p ≤ s.length ∧ wr.heap[w.heap.size]? = some (.stringIter T p) ∧ wr.ownsRow (w.heap.size + 1) 5 1 v4 (halfB s p).length (bvs (halfB s p)) ∧ allDig (s.take p) = true ∧ Below w.heap.size w wr)
    (fun _ wr => s.length - wr.iterPos w.heap.size)
  case atStart => exact ⟨0, Nat.zero_le _, hi0.out, by simpa [halfB_zero, bvs] using World.ownsRow_nil _ _ _ _, rfl, hb0.out⟩
  case round =>
    obtain ⟨p, hp, hit, ho, had, hb⟩ := hrel
    obtain ⟨a4, c4, rfl⟩ := own_slice ho
    have Hit := Lib.hid hit; clear hit
    have Ho := Lib.hid ho; clear ho
    have Had := Lib.hid had; clear had
    have Hb := Lib.hid hb; clear hb
    by_cases hlt : p < s.length
    · by_cases hd : digN (s[p]'hlt) < 16
      · obtain ⟨x, hx⟩ : ∃ x, x = s[p]'hlt := ⟨_, rfl⟩
        obtain ⟨wi, hwi⟩ : ∃ wi, wi = wr.iterAt w.heap.size T (p + 1) := ⟨_, rfl⟩
        have hx128 : x.toNat < 128 := by
          rw [← hx] at hd; unfold digN at hd; split at hd
          · omega
          · split at hd <;> omega
        obtain ⟨xn, hxn⟩ : ∃ xn, xn = x.toNat := ⟨_, rfl⟩
        have hnx : ∀ ty, (Instr.next (.pointer (some ⟨w.heap.size, 0, none⟩)) true ty).run Try.prog wr = .ok (.tuple #[.bool true, .int .i64 (p : Int), .int .i32 (xn : Int)]) wi := by
          intro ty
          have hps : p < T.size := by rw [HTs.out]; exact hlt
          have e1 : T[p]'hps = x := by
            have := HT.out
            subst this
            rw [bget, hx]
          have := run_next_ascii_at (P := Try.prog) wr w.heap.size T p ty Hit.out hps (by rw [e1]; exact hx128)
          rw [this, e1, hwi, hxn]
        have hwh : Hid (wi.heap[w.heap.size]? = some (.stringIter T (p + 1))) := by rw [hwi]; exact iterAt_heap wr _ T p _ Hit.out
        have hwo : Hid (wi.ownsRow (w.heap.size + 1) 5 1 (.slice a4 (halfB s p).length c4) (halfB s p).length (bvs (halfB s p))) := by rw [hwi]; exact ownsRow_iterAt Ho.out (Nat.lt_succ_self _) T _
        have hwb : Hid (Below w.heap.size w wi) := by rw [hwi]; exact below_iterAt Hb.out (Nat.le_refl _) T _
        have hipos : Hid (wr.iterPos w.heap.size = p) := iterPos_of Hit.out
        have hipos' : Hid (wi.iterPos w.heap.size = p + 1) := iterPos_of hwh.out
        have Hx := Lib.hid hx
        have Hxn := Lib.hid hxn
        have Hd := Lib.hid hd
        clear hwi hx hxn hd
        have hcase : (48 ≤ xn ∧ xn ≤ 57) ∨ (¬ xn ≤ 57 ∧ 97 ≤ xn ∧ xn ≤ 102) := by
          have hd := Hd.out
          rw [← Hx.out] at hd
          unfold digN at hd
          rw [← Hxn.out] at hd
          split at hd
          · left; assumption
          · split at hd
            · right; omega
            · omega
        rcases Nat.mod_two_eq_zero_or_one p with hpar | hpar
        · rcases hcase with ⟨h1a, h1b⟩ | ⟨h0, h2a, h2b⟩
          · skip
            go_wp2_with (at_builtin; apply Stop.mk)
            refine Stop.go ?_
            have hdv := digN_le x
            have hzv : Value.int .u8 (((xn : Int) - 48) * 16) = bv (UInt8.ofNat (16 * digN x)) := bv_dig _ _ (by have : digN x < 16 := by { rw [Hx.out]; exact Hd.out }; omega) (by have : digN x = xn - 48 := by { unfold digN; rw [← Hxn.out, if_pos ⟨h1a, h1b⟩] }; rw [this]; omega)
            have hbb : BB (wi.alloc (.cells (bvs [UInt8.ofNat (16 * digN x)]).toArray 5)) 5 wi.heap.size [UInt8.ofNat (16 * digN x)] := BB.new wi _ _
            have hbl2 : Below wi.heap.size wi (wi.alloc (.cells (bvs [UInt8.ofNat (16 * digN x)]).toArray 5)) := (Below.refl _ wi).alloc (Nat.le_refl _) _
            rw [hzv]
            obtain ⟨w2, hw2⟩ : ∃ w2, w2 = wi.alloc (.cells (bvs [UInt8.ofNat (16 * digN x)]).toArray 5) := ⟨_, rfl⟩
            rw [← hw2] at hbb hbl2
            change wpList _ _ _ _ _ (wi.alloc (.cells (bvs [UInt8.ofNat (16 * digN x)]).toArray 5))
            rw [← hw2]
            have Hlen : Hid ((halfB s p).length = (p + 1) / 2) := halfB_len s p (by omega)
            have hsz2 := hbl2.size
            have hbsz := hwb.out.size
            have hlt2 := lt_of_block hwh.out
            refine wpList_append_rd _ rfl (.tmp 38) (.tmp 41) 25 rfl (w.heap.size + 1) 5 i0 (.int .u8 0) 1 1 Try.underlying25 hi hz0 hz1 hz2 rfl (by decide) (.slice a4 (halfB s p).length c4) (halfB s p).length (bvs (halfB s p)) rfl (own_fresh hwo.out hbl2) (.slice (some ⟨wi.heap.size, 0, none⟩) 1 1) 1 (bvs [UInt8.ofNat (16 * digN x)]) rfl (hbb.rdAll (by simp [maxLen])) (bvs_one _) (by rw [Hlen.out]; simp [maxLen]; omega) (by rw [Hlen.out]; omega) (by omega) ?_
            intro v' w3 hown3 hgr3 _ _
            have hrow : ∀ j, (Value.slice a4 (halfB s p).length c4).ownBlock = some j → w.heap.size + 1 ≤ j := fun j hj => (hwo.out.lt j hj).1
            have B3 : Hid (Below w.heap.size w w3) := (hwb.out.trans (hbl2.mono hbsz)).grown hgr3 (by omega) (fun j hj => by have := hrow j hj; omega)
            have I3 : Hid (w3.heap[w.heap.size]? = some (.stringIter T (p + 1))) := by
              have e1 : w2.heap[w.heap.size]? = some (.stringIter T (p + 1)) := by rw [hbl2.block _ hlt2]; exact hwh.out
              have e2 := hgr3.block w.heap.size (by omega) (fun e => by have := hrow _ e.symm; omega)
              exact e2.trans e1
            have hstep := halfB_even s p hlt hpar
            rw [← Hx.out] at hstep
            have O3 : Hid (w3.ownsRow (w.heap.size + 1) 5 1 v' (halfB s (p + 1)).length (bvs (halfB s (p + 1)))) := by
              rw [hstep]
              exact Lib.hid (by simpa using hown3)
            have A3 : Hid (allDig (s.take (p + 1)) = true) := allDig_take s p hlt Had.out Hd.out
            have P3 : Hid (w3.iterPos w.heap.size = p + 1) := iterPos_of I3.out
            clear hown3 hgr3 hbb hbl2 hw2 hzv hstep hrow
            go_wp2
            go_roundw
            case rel => exact ⟨p + 1, by omega, I3.out, O3.out, A3.out, B3.out⟩
            case measure => rw [P3.out, hipos.out]; omega
          · skip
            go_wp2_with (at_builtin; apply Stop.mk)
            refine Stop.go ?_
            have hdv := digN_le x
            have hzv : Value.int .u8 (((xn : Int) - 97 + 10) * 16) = bv (UInt8.ofNat (16 * digN x)) := bv_dig _ _ (by have : digN x < 16 := by { rw [Hx.out]; exact Hd.out }; omega) (by have : digN x = xn - 87 := by { unfold digN; rw [← Hxn.out, if_neg (by omega), if_pos ⟨h2a, h2b⟩] }; rw [this]; omega)
            have hbb : BB (wi.alloc (.cells (bvs [UInt8.ofNat (16 * digN x)]).toArray 5)) 5 wi.heap.size [UInt8.ofNat (16 * digN x)] := BB.new wi _ _
            have hbl2 : Below wi.heap.size wi (wi.alloc (.cells (bvs [UInt8.ofNat (16 * digN x)]).toArray 5)) := (Below.refl _ wi).alloc (Nat.le_refl _) _
            rw [hzv]
            obtain ⟨w2, hw2⟩ : ∃ w2, w2 = wi.alloc (.cells (bvs [UInt8.ofNat (16 * digN x)]).toArray 5) := ⟨_, rfl⟩
            rw [← hw2] at hbb hbl2
            change wpList _ _ _ _ _ (wi.alloc (.cells (bvs [UInt8.ofNat (16 * digN x)]).toArray 5))
            rw [← hw2]
            have Hlen : Hid ((halfB s p).length = (p + 1) / 2) := halfB_len s p (by omega)
            have hsz2 := hbl2.size
            have hbsz := hwb.out.size
            have hlt2 := lt_of_block hwh.out
            refine wpList_append_rd _ rfl (.tmp 38) (.tmp 41) 25 rfl (w.heap.size + 1) 5 i0 (.int .u8 0) 1 1 Try.underlying25 hi hz0 hz1 hz2 rfl (by decide) (.slice a4 (halfB s p).length c4) (halfB s p).length (bvs (halfB s p)) rfl (own_fresh hwo.out hbl2) (.slice (some ⟨wi.heap.size, 0, none⟩) 1 1) 1 (bvs [UInt8.ofNat (16 * digN x)]) rfl (hbb.rdAll (by simp [maxLen])) (bvs_one _) (by rw [Hlen.out]; simp [maxLen]; omega) (by rw [Hlen.out]; omega) (by omega) ?_
            intro v' w3 hown3 hgr3 _ _
            have hrow : ∀ j, (Value.slice a4 (halfB s p).length c4).ownBlock = some j → w.heap.size + 1 ≤ j := fun j hj => (hwo.out.lt j hj).1
            have B3 : Hid (Below w.heap.size w w3) := (hwb.out.trans (hbl2.mono hbsz)).grown hgr3 (by omega) (fun j hj => by have := hrow j hj; omega)
            have I3 : Hid (w3.heap[w.heap.size]? = some (.stringIter T (p + 1))) := by
              have e1 : w2.heap[w.heap.size]? = some (.stringIter T (p + 1)) := by rw [hbl2.block _ hlt2]; exact hwh.out
              have e2 := hgr3.block w.heap.size (by omega) (fun e => by have := hrow _ e.symm; omega)
              exact e2.trans e1
            have hstep := halfB_even s p hlt hpar
            rw [← Hx.out] at hstep
            have O3 : Hid (w3.ownsRow (w.heap.size + 1) 5 1 v' (halfB s (p + 1)).length (bvs (halfB s (p + 1)))) := by
              rw [hstep]
              exact Lib.hid (by simpa using hown3)
            have A3 : Hid (allDig (s.take (p + 1)) = true) := allDig_take s p hlt Had.out Hd.out
            have P3 : Hid (w3.iterPos w.heap.size = p + 1) := iterPos_of I3.out
            clear hown3 hgr3 hbb hbl2 hw2 hzv hstep hrow
            go_wp2
            go_roundw
            case rel => exact ⟨p + 1, by omega, I3.out, O3.out, A3.out, B3.out⟩
            case measure => rw [P3.out, hipos.out]; omega
        · have hl1 : Hid ((halfB s p).length = (p + 1) / 2) := halfB_len s p (by omega)
          obtain ⟨ho1, ho2⟩ := halfB_odd s p hlt hpar
          rcases hwo.out.2 with ⟨_, h0⟩ | ⟨g, cap, cur, hv, hg⟩
          · have := hl1.out; omega
          simp only [Value.slice.injEq, true_and] at hv
          obtain ⟨rfl, rfl⟩ := hv
          obtain ⟨dp, hdp⟩ : ∃ dp, dp = digN (s[p - 1]'(by omega)) := ⟨_, rfl⟩
          have hdp16 : dp < 16 := by
            have ha := Had.out
            simp only [allDig, List.all_eq_true, decide_eq_true_eq] at ha
            rw [hdp]
            exact ha _ (List.mem_take_iff_getElem.2 ⟨p - 1, by omega, rfl⟩)
          rw [← hdp, ← Hx.out] at ho2
          rw [← hdp] at ho1
          have Ho2 := Lib.hid ho2
          have Hdp := Lib.hid hdp
          clear ho2 hdp
          have hcell : wi.cell? ⟨g, p / 2, none⟩ = some (.int .u8 ((16 * dp : Nat) : Int)) := by
            rw [hwo.out.cellAt (p / 2) (by rw [hl1.out]; omega)]
            unfold bvs
            rw [List.getElem?_map, ho1, bv_dig _ (16 * dp) (by omega) rfl]
            rfl
          clear ho1
          have hfz := hwo.out.frozenAt (p / 2)
          have hidx1 : (0 : Int) ≤ (p : Int) / 2 := by omega
          have hidx2 : (p : Int) / 2 < ((halfB s p).length : Int) := by have := hl1.out; omega
          have htn : ((p : Int) / 2).toNat = p / 2 := by omega
          rcases hcase with ⟨h1a, h1b⟩ | ⟨h0, h2a, h2b⟩
          · skip
            have hdv : digN x < 16 := by { rw [Hx.out]; exact Hd.out }
            have hdz : digN x = xn - 48 := by { unfold digN; rw [← Hxn.out, if_pos ⟨h1a, h1b⟩] } 
            have hzv : Value.int .u8 (bits BinOp.or IntKind.u8 (16 * (dp : Int)) ((xn : Int) - 48)) = bv (UInt8.ofNat (16 * dp + digN x)) := bv_dig _ _ (by omega) (bits_dig' dp (digN x) _ hdp16 hdv (by rw [hdz]; omega))
            obtain ⟨hst, hgr⟩ := hwo.out.stored (p / 2) (bv (UInt8.ofNat (16 * dp + digN x)))
            have hrow : w.heap.size + 1 ≤ g := (hwo.out.lt g rfl).1
            have hlt2 := lt_of_block hwh.out
            obtain ⟨w3, hw3⟩ : ∃ w3, w3 = wi.setCell ⟨g, p / 2, none⟩ (bv (UInt8.ofNat (16 * dp + digN x))) := ⟨_, rfl⟩
            rw [← hw3] at hst hgr
            have B3 : Hid (Below w.heap.size w w3) := hwb.out.grown hgr hwb.out.size (fun j hj => by cases hj; omega)
            have I3 : Hid (w3.heap[w.heap.size]? = some (.stringIter T (p + 1))) := by
              have e2 := hgr.block w.heap.size hlt2 (fun e => by cases e; omega)
              exact e2.trans hwh.out
            have O3 : Hid (w3.ownsRow (w.heap.size + 1) 5 1 (.slice (some ⟨g, 0, none⟩) (halfB s p).length c4) (halfB s (p + 1)).length (bvs (halfB s (p + 1)))) := by
              rw [Ho2.out, List.length_set]
              have e3 : bvs ((halfB s p).set (p / 2) (UInt8.ofNat (16 * dp + digN x))) = (bvs (halfB s p)).set (p / 2) (bv (UInt8.ofNat (16 * dp + digN x))) := by
                unfold bvs
                rw [List.map_set]
              rw [e3]
              exact Lib.hid hst
            have A3 : Hid (allDig (s.take (p + 1)) = true) := allDig_take s p hlt Had.out Hd.out
            have P3 : Hid (w3.iterPos w.heap.size = p + 1) := iterPos_of I3.out
            have Hw3 := Lib.hid hw3
            have Hzv := Lib.hid hzv
            clear hst hgr hzv hw3 hdz hdv
            go_wp2
            rw [Hzv.out, ← Hw3.out]
            go_roundw
            case rel => exact ⟨p + 1, by omega, I3.out, O3.out, A3.out, B3.out⟩
            case measure => rw [P3.out, hipos.out]; omega
          · skip
            have hdv : digN x < 16 := by { rw [Hx.out]; exact Hd.out }
            have hdz : digN x = xn - 87 := by { unfold digN; rw [← Hxn.out, if_neg (by omega), if_pos ⟨h2a, h2b⟩] } 
            have hzv : Value.int .u8 (bits BinOp.or IntKind.u8 (16 * (dp : Int)) ((xn : Int) - 97 + 10)) = bv (UInt8.ofNat (16 * dp + digN x)) := bv_dig _ _ (by omega) (bits_dig' dp (digN x) _ hdp16 hdv (by rw [hdz]; omega))
            obtain ⟨hst, hgr⟩ := hwo.out.stored (p / 2) (bv (UInt8.ofNat (16 * dp + digN x)))
            have hrow : w.heap.size + 1 ≤ g := (hwo.out.lt g rfl).1
            have hlt2 := lt_of_block hwh.out
            obtain ⟨w3, hw3⟩ : ∃ w3, w3 = wi.setCell ⟨g, p / 2, none⟩ (bv (UInt8.ofNat (16 * dp + digN x))) := ⟨_, rfl⟩
            rw [← hw3] at hst hgr
            have B3 : Hid (Below w.heap.size w w3) := hwb.out.grown hgr hwb.out.size (fun j hj => by cases hj; omega)
            have I3 : Hid (w3.heap[w.heap.size]? = some (.stringIter T (p + 1))) := by
              have e2 := hgr.block w.heap.size hlt2 (fun e => by cases e; omega)
              exact e2.trans hwh.out
            have O3 : Hid (w3.ownsRow (w.heap.size + 1) 5 1 (.slice (some ⟨g, 0, none⟩) (halfB s p).length c4) (halfB s (p + 1)).length (bvs (halfB s (p + 1)))) := by
              rw [Ho2.out, List.length_set]
              have e3 : bvs ((halfB s p).set (p / 2) (UInt8.ofNat (16 * dp + digN x))) = (bvs (halfB s p)).set (p / 2) (bv (UInt8.ofNat (16 * dp + digN x))) := by
                unfold bvs
                rw [List.map_set]
              rw [e3]
              exact Lib.hid hst
            have A3 : Hid (allDig (s.take (p + 1)) = true) := allDig_take s p hlt Had.out Hd.out
            have P3 : Hid (w3.iterPos w.heap.size = p + 1) := iterPos_of I3.out
            have Hw3 := Lib.hid hw3
            have Hzv := Lib.hid hzv
            clear hst hgr hzv hw3 hdz hdv
            go_wp2
            rw [Hzv.out, ← Hw3.out]
            go_roundw
            case rel => exact ⟨p + 1, by omega, I3.out, O3.out, A3.out, B3.out⟩
            case measure => rw [P3.out, hipos.out]; omega
      · have hbad := rune_bad s p hlt hd
        have hof := ofHexB_bad s p hlt hd
        rw [← HT.out] at hbad
        obtain ⟨wi, hwi⟩ : ∃ wi, wi = wr.iterAt w.heap.size T (p + (Utf8.decode T p).2) := ⟨_, rfl⟩
        have hnx : ∀ ty, (Instr.next (.pointer (some ⟨w.heap.size, 0, none⟩)) true ty).run Try.prog wr = .ok (.tuple #[.bool true, .int .i64 (p : Int), .int .i32 ((Utf8.decode T p).1 : Int)]) wi := by
          intro ty
          rw [hwi]
          exact run_next_any_at (P := Try.prog) wr w.heap.size T p ty Hit.out (by rw [HTs.out]; exact hlt)
        have hwb : Hid (Below w.heap.size w wi) := by rw [hwi]; exact below_iterAt Hb.out (Nat.le_refl _) T _
        have Hof := Lib.hid hof
        clear hwi hof hd
        generalize (Utf8.decode T p).1 = rn at hnx hbad
        have Hbad := Lib.hid hbad
        clear hbad
        by_cases c1 : 48 ≤ rn
        · have c2 : ¬ rn ≤ 57 := fun h => Hbad.out.1 ⟨c1, h⟩
          by_cases c3 : 97 ≤ rn
          · have c4' : ¬ rn ≤ 102 := fun h => Hbad.out.2 ⟨c3, h⟩
            go_wp2
            go_ret2
            exact ⟨_, _, rfl, hwb.out, .inl ⟨Hof.out, rfl, rfl⟩⟩
          · go_wp2
            go_ret2
            exact ⟨_, _, rfl, hwb.out, .inl ⟨Hof.out, rfl, rfl⟩⟩
        · have c3 : ¬ 97 ≤ rn := by omega
          go_wp2
          go_ret2
          exact ⟨_, _, rfl, hwb.out, .inl ⟨Hof.out, rfl, rfl⟩⟩
    · have hps : p = s.length := by omega
      subst hps
      have hnx : ∀ ty, (Instr.next (.pointer (some ⟨w.heap.size, 0, none⟩)) true ty).run Try.prog wr = .ok (.tuple #[.bool false]) wr := fun ty => run_next_end_at (P := Try.prog) wr w.heap.size T _ ty Hit.out (by rw [HTs.out]; omega)
      have hTs : T.size = s.length := HTs.out
      rw [List.take_of_length_le (Nat.le_refl _)] at Had
      rcases Nat.mod_two_eq_zero_or_one s.length with hpar | hpar
      · have Hof : Hid (ofHexB s = some (halfB s s.length)) := by
          have := ofHexB_good s hpar Had.out
          rw [← halfB_all s hpar] at this
          exact this
        go_wp2
        go_ret2
        exact ⟨_, _, rfl, Hb.out, .inr ⟨_, Hof.out, rfl, Rd.of_own Ho.out⟩⟩
      · have Hof : Hid (ofHexB s = none) := ofHexB_odd s (by omega)
        go_wp2
        go_ret2
        exact ⟨_, _, rfl, Hb.out, .inl ⟨Hof.out, rfl, rfl⟩⟩
end Go.Proofs.Ytdljpgihfjpnjaa
