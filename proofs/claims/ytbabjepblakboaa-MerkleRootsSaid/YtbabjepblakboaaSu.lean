/- The hash of parts: the walk. -/
import Derived.Test.YtbabjepblakboaaSh
import Derived.Test.YtbabjepblakboaaSr
import Derived.Test.YtbabjepblakboaaSq
namespace Go.Proofs.Ytbabjepblakboaa
set_option linter.unusedVariables false
set_option linter.unusedSimpArgs false
open Go.RowKit Go.Lib

theorem run_isAgg_u32 (w : World) : (isAgg 39).run Try.prog w = .ok false w := by
  unfold isAgg
  rw [Sem.run_bind, run_underlying Try.underlying39 w]
  rfl

theorem infoW : (Try.prog.info? 39).map (·.size) = some 1 := by kernel_rfl

theorem run_index_word (w : World) (cs : List Value) (q : Nat) (u : Value) (hq : q < 8) (hu : cs[q]? = some u) :
    (Instr.index 169 (.agg cs.toArray) (.int .i64 (q : Int))).run Try.prog w = .ok u w := by
  have h1 : (0 : Int) ≤ (q : Int) ∧ (q : Int) < 8 := by omega
  have h2 := run_size_of infoW w
  simp [Instr.index, run_underlying Try.underlying169, asIntOf, h1, h2, part, Sem.run_bind, run_isAgg_u32, hu]
  omega

theorem put4 (A : List UInt8) (z : Nat) (a b c d : UInt8) : ((((A ++ List.replicate (z + 4) 0).set A.length a).set (A.length + 1) b).set (A.length + 2) c).set (A.length + 3) d = A ++ [a, b, c, d] ++ List.replicate z 0 := by
  rw [List.set_append_right _ _ (Nat.le_refl _), List.set_append_right _ _ (by omega), List.set_append_right _ _ (by omega), List.set_append_right _ _ (by omega)]
  simp [List.replicate_succ, List.append_assoc]

theorem outB_take (l : List W32) (q : Nat) (h : q < l.length) : outB (l.take (q + 1)) = outB (l.take q) ++ wordB (l.getD q 0) := by
  unfold outB
  rw [List.take_add_one, List.getElem?_eq_getElem h, List.flatMap_append]
  simp [List.getD_eq_getElem?_getD, h]

/-- A slice of slices of bytes. -/
def Pts (w : World) (v : Value) (L : List (List UInt8)) : Prop :=
  ∃ vs : List Value, Rd w 1 v L.length vs ∧ ∀ (i : Nat) (x : List UInt8), L[i]? = some x → ∃ u, vs[i]? = some u ∧ Rd w 1 u x.length (bvs x)

theorem Pts.fresh {w w' : World} {v : Value} {L : List (List UInt8)} (h : Pts w v L) (hb : Below w.heap.size w w') : Pts w' v L := by
  obtain ⟨vs, h1, h2⟩ := h
  exact ⟨vs, h1.fresh hb, fun i x hx => by
    obtain ⟨u, hu, hr⟩ := h2 i x hx
    exact ⟨u, hu, hr.fresh hb⟩⟩

theorem Pts.slice {w : World} {v : Value} {L : List (List UInt8)} (h : Pts w v L) : ∃ a c, v = .slice a L.length c := by
  obtain ⟨vs, h1, _⟩ := h
  exact h1.slice

/-- What is read stays where but the hasher's block and new ones turn. -/
theorem Rd.fh {w0 w w' : World} {v : Value} {n H base : Nat} {cs : List Value} (h : Rd w0 1 v n cs) (hb : Below w0.heap.size w0 w) (hf : Fh H base w w') (h1 : w0.heap.size ≤ H) (h2 : w0.heap.size ≤ base) : Rd w' 1 v n cs := by
  refine h.kept fun k hk _ => ?_
  rw [hf.block k (by omega) (by omega), hb.block k hk]

theorem flat_take (L : List (List UInt8)) (k : Nat) (h : k < L.length) : (L.take (k + 1)).flatten = (L.take k).flatten ++ L[k] := by
  rw [List.take_add_one, List.getElem?_eq_getElem h, List.flatten_append]
  simp

theorem flat_le (L : List (List UInt8)) (k : Nat) : (L.take k).flatten.length ≤ L.flatten.length := by
  have h : L.flatten = (L.take k).flatten ++ (L.drop k).flatten := by rw [← List.flatten_append, List.take_append_drop]
  rw [h]; simp

/-- The lowest i bytes, the highest of them first. -/
def tailB (v : Nat) : Nat → List UInt8
  | 0 => []
  | i + 1 => UInt8.ofNat (v / 2 ^ (8 * i)) :: tailB v i

@[simp] theorem tailB_length (v i : Nat) : (tailB v i).length = i := by induction i <;> simp [tailB, *]

theorem tailB_be8 (v : Nat) : tailB v 8 = be8 v 8 := rfl

def padL (P v i : Nat) : List UInt8 := 128 :: (List.replicate (P - 9) 0 ++ (List.replicate (8 - i) 0 ++ tailB v i))

theorem padL_length (P v i : Nat) (hP : 9 ≤ P) (hi : i ≤ 8) : (padL P v i).length = P := by
  simp [padL]; omega

theorem padL_set (P v i : Nat) (hP : 9 ≤ P) (hi : i < 8) : (padL P v i).set (P - 1 - i) (UInt8.ofNat (v / 2 ^ (8 * i))) = padL P v (i + 1) := by
  unfold padL
  obtain ⟨d, hd⟩ : ∃ d, P - 1 - i = d + 1 := ⟨P - 2 - i, by omega⟩
  rw [hd, List.set_cons_succ]
  congr 1
  rw [List.set_append_right _ _ (by simp; omega)]
  congr 1
  rw [show 8 - i = (8 - (i + 1)) + 1 by omega, List.replicate_succ', List.append_assoc]
  rw [List.set_append_right _ _ (by simp; omega)]
  congr 1
  rw [show d - (List.replicate (P - 9) (0 : UInt8)).length - (List.replicate (8 - (i + 1)) (0 : UInt8)).length = 0 by simp; omega]
  rfl

theorem padL_cell (P v i : Nat) (hP : 9 ≤ P) (hi : i < 8) : (padL P v i)[P - 1 - i]? = some 0 := by
  unfold padL
  obtain ⟨d, hd⟩ : ∃ d, P - 1 - i = d + 1 := ⟨P - 2 - i, by omega⟩
  rw [hd, List.getElem?_cons_succ, List.getElem?_append_right (by simp; omega), List.getElem?_append_left (by simp; omega)]
  rw [List.getElem?_replicate, if_pos (by simp; omega)]

set_option maxRecDepth 100000 in
set_option maxHeartbeats 1600000 in
theorem sum_any (w : World) (v : Value) (L : List (List UInt8)) (hp : Pts w v L) (hL : L.length ≤ 1000000) (hlen : L.flatten.length ≤ 100000000) :
    Calls Try.prog 155 #[v] w fun e w' => e = .returned (.agg (bvs (shaB L.flatten)).toArray) ∧ Below w.heap.size w w' := by
  obtain ⟨i0, hi, hi0, hi1, hi2⟩ := info_parts infoU8
  obtain ⟨a0, c0, rfl⟩ := hp.slice
  have HP := Lib.hid hp; clear hp
  have CK := Lib.hid (fun w0 => constants_any w0)
  have CS := Lib.hid (fun w0 => start_any w0)
  obtain ⟨K, hK⟩ : ∃ k, k = (wds KS).toArray := ⟨_, rfl⟩
  obtain ⟨S, hS⟩ : ∃ k, k = (wds S0.l).toArray := ⟨_, rfl⟩
  rw [← hK] at CK
  rw [← hS] at CS
  have HK := Lib.hid (And.intro hK hS)
  clear hK hS
  go_enter Try.func155, Try.ntmps155
  go_wp2_with fail
  obtain ⟨wa, ha, hak, hab, has⟩ := alloc_cb w 24 (bvs (List.replicate 32 0))
  change Calls _ _ _ (w.alloc (.cells (bvs (List.replicate 32 0)).toArray 24)) _
  rw [← ha]
  clear ha
  refine (CK.out wa).mono ?_
  rintro e w1 ⟨rfl, hb1⟩
  have hO1 := hak.fresh hb1
  have hB1 : Below w.heap.size w w1 := hab.trans (hb1.mono (by omega))
  have hz1 : w.heap.size + 1 ≤ w1.heap.size := by have := hb1.size; omega
  clear hak hab has hb1
  go_wp2_with fail
  refine (CS.out w1).mono ?_
  rintro e w2 ⟨rfl, hb2⟩
  have hO2 := hO1.fresh hb2
  have hB2 : Below w.heap.size w w2 := hB1.trans (hb2.mono (by omega))
  have hz2 : w.heap.size + 1 ≤ w2.heap.size := by have := hb2.size; omega
  clear hO1 hB1 hz1 hb2
  go_wp2_with (with_reducible refine stopAt 13 ?_)
  refine Stop.go ?_
  rw [HK.out.1, HK.out.2]
  refine wpList_build rfl _ _ rfl (.agg (hcells KS S0 (.slice none 0 0) 0).toArray) (by kernel_rfl) ?_
  rw [← HK.out.1, ← HK.out.2]
  obtain ⟨HH, hHH⟩ : ∃ h, h = hcells KS S0 (.slice none 0 0) 0 := ⟨_, rfl⟩
  rw [← hHH]
  have HHH := Lib.hid hHH
  clear hHH
  go_wp2
  obtain ⟨H, hH⟩ : ∃ H, H = w2.heap.size := ⟨_, rfl⟩
  obtain ⟨w3, hw3, h3k, h3b, h3z⟩ := alloc_cb w2 216 HH
  rw [← hw3]
  rw [← hH] at h3k h3b h3z hz2 ⊢
  have hHd : Hd w3 H (H + 1) [] := by
    rw [HHH.out] at h3k
    exact ⟨.slice none 0 0, h3k, Vw.nil _ _⟩
  have hO3 : BB w3 24 w.heap.size (List.replicate 32 0) := by
    have h1 := CB.below hO2 h3b (by omega)
    exact h1
  have hB3 : Below w.heap.size w w3 := hB2.trans (h3b.mono (by omega))
  obtain ⟨N, hN⟩ : ∃ N, N = w.heap.size := ⟨_, rfl⟩
  have HB3w := Lib.hid hB3
  rw [← hN] at hO3 hB3 hz2 ⊢
  have HHd := Lib.hid hHd
  have HO3 := Lib.hid hO3
  have HB3 := Lib.hid hB3
  have HZ3 := Lib.hid h3z
  have HN := Lib.hid hN
  clear hw3 h3k h3b h3z hHd hO3 hB3 hO2 hB2 hH hN HHH
  go_loopw [17] (fun v17 wr => ∃ k : Nat, k ≤ L.length ∧ v17 = .int .i64 (k : Int) ∧ Hd wr H (H + 1) (L.take k).flatten ∧ Fh H (H + 1) w3 wr)
    (fun v _ => L.length - (intOf v).toNat)
  case atStart => exact ⟨0, by omega, rfl, by simpa using HHd.out, Fh.refl _ _ _⟩
  case round =>
    clear HHd
    obtain ⟨k, hk, rfl, h1, h2⟩ := hrel
    have H1 := Lib.hid h1
    have H2 := Lib.hid h2
    clear h1 h2
    by_cases hlt : k < L.length
    · obtain ⟨vs, hr, hel⟩ := HP.out
      obtain ⟨u, hu, hru⟩ := hel k _ (List.getElem?_eq_getElem hlt)
      have hr' := Rd.fh hr HB3w.out H2.out (by have := HN.out; omega) (by have := HN.out; omega)
      have hru' := Rd.fh hru HB3w.out H2.out (by have := HN.out; omega) (by have := HN.out; omega)
      have huH : L[k] ≠ [] → u.ownBlock ≠ some H := by
        intro hne
        rcases hru.2 with ⟨_, h0⟩ | ⟨ad, c, rfl, _, _, hcell⟩
        · exact absurd (List.eq_nil_of_length_eq_zero h0) hne
        · have hpos : 0 < L[k].length := List.length_pos_iff.2 hne
          have hc0 := hcell 0 (bv (L[k][0]'hpos)) (by simp [bvs, hpos])
          have hbl := block_lt_of_cell hc0
          rw [Addr.add_block] at hbl
          simp only [Value.ownBlock, ne_eq, Option.some.injEq]
          intro e
          have := HN.out
          omega
      rcases hr'.2 with ⟨_, h0⟩ | ⟨ad, c, he, _, _, hcell⟩
      · omega
      simp only [Value.slice.injEq, true_and] at he
      obtain ⟨rfl, rfl⟩ := he
      obtain ⟨x, hx⟩ : ∃ x, x = L[k] := ⟨_, rfl⟩
      rw [← hx] at hru' huH hru
      obtain ⟨a1, c1, rfl⟩ := hru.slice
      have fk : wr.cell? (ad.add k) = some (.slice a1 x.length c1) := hcell k _ hu
      have bk : (k : Int) < (L.length : Int) := by omega
      have hle := flat_le L (k + 1)
      rw [flat_take L k hlt, ← hx] at hle
      have hb : (L.take k).flatten.length + x.length ≤ 1000000000 := by
        rw [List.length_append] at hle
        omega
      have CA := Lib.hid (fun w' (hs : H + 1 ≤ w'.heap.size) (hd : Hd w' H (H + 1) (L.take k).flatten) (hr : Rd w' 1 (.slice a1 x.length c1) x.length (bvs x)) => hadd_any w' H (H + 1) (by omega) hs _ hd _ x hr huH hb)
      have HRU := Lib.hid hru'
      have HX := Lib.hid hx
      clear hr hel hu hru hr' hru' huH hcell hle hb hx
      obtain ⟨xl, hxl⟩ : ∃ n, n = x.length := ⟨_, rfl⟩
      rw [← hxl] at fk
      have HXL := Lib.hid hxl
      clear hxl
      have hsz : H + 1 ≤ wr.heap.size := by have := H2.out.size; have := HZ3.out; omega
      go_wp2_with fail
      rw [HXL.out]
      refine (CA.out wr hsz H1.out HRU.out).mono ?_
      rintro e w4 ⟨rfl, hd4, hf4⟩
      have H14 : Hid (Hd w4 H (H + 1) (L.take (k + 1)).flatten) := by
        rw [flat_take L k hlt, ← HX.out]
        exact Lib.hid hd4
      have H24 := Lib.hid (H2.out.trans hf4)
      rw [← HXL.out]
      clear hd4 hf4
      go_wp2
      go_roundw
      case rel => exact ⟨k + 1, by omega, by go_num, H14.out, H24.out⟩
      case measure =>
        simp only [intOf]
        omega
    · rename World => wv
      have hkL : k = L.length := by omega
      have hd5 := H1.out
      rw [hkL, List.take_of_length_le (Nat.le_refl _)] at hd5
      obtain ⟨m, hm⟩ : ∃ m, m = L.flatten := ⟨_, rfl⟩
      rw [← hm] at hd5 hlen
      obtain ⟨n, hn⟩ : ∃ n, n = m.length := ⟨_, rfl⟩
      have fn := hd5.n
      rw [← hn] at fn hlen
      obtain ⟨P, hP⟩ : ∃ P, P = (119 - n % 64) % 64 + 9 := ⟨_, rfl⟩
      obtain ⟨B8, hB8⟩ : ∃ b, b = n * 8 := ⟨_, rfl⟩
      have g1 : IntKind.u64.wrap ((n : Int) * 8) = (B8 : Int) := by rw [IntKind.wrap_u64]; omega
      have HD5 := Lib.hid hd5
      have HM := Lib.hid hm
      have HNN := Lib.hid hn
      have HPP := Lib.hid hP
      have HB8 := Lib.hid hB8
      have HLN := Lib.hid hlen
      have HKL := Lib.hid hkL
      clear hd5 hm hn hP hB8 hlen hkL H1
      go_wp2_with (with_reducible refine stopAt 38 ?_)
      refine Stop.go ?_
      have hPe : ((119 - (n : Int)) % 64 + 9) = (P : Int) := by have := HPP.out; omega
      have hPl : P ≤ 72 := by have := HPP.out; omega
      have hP9 : 9 ≤ P := by have := HPP.out; omega
      refine wpList_make_full _ rfl _ _ 42 rfl wv.heap.size 5 i0 (.int .u8 0) 1 Try.underlying42 hi hi0 hi1 _ _ _ _ P rfl rfl hPe hPe (by rw [hi2]; omega) (by unfold maxLen; omega) (Nat.le_refl _) ?_
      intro w6 hown hgr
      have hb6 : BB w6 5 wv.heap.size (List.replicate P 0) := by
        refine BB.full (base := wv.heap.size) (n := P) ?_
        simpa [bvs, bv, Value.cells, toList_madeCells_one] using hown
      have hbl6 : Below wv.heap.size wv w6 := Below.grown (Below.refl _ wv) hgr (Nat.le_refl _) (by simp)
      obtain ⟨G, hG⟩ : ∃ G, G = wv.heap.size := ⟨_, rfl⟩
      have hGH : H + 1 ≤ G := by have := H2.out.size; have := HZ3.out; omega
      rw [← hG] at hb6 ⊢
      have hg6 : G < w6.heap.size := hb6.lt
      have hBG : Below G wv (w6.setCell ⟨G, 0, none⟩ (.int .u8 128)) := by rw [hG]; exact hbl6.setCell (Nat.le_refl _) _
      have fc0 := hb6.cell 0 0 (by rw [List.getElem?_replicate, if_pos (by omega)])
      have ff0 := hb6.free 0
      unfold bv at fc0
      have hb7 : BB (w6.setCell ⟨G, 0, none⟩ (.int .u8 128)) 5 G (padL P B8 0) := by
        have h1 := hb6.set 0 128
        have h2 : (List.replicate P (0 : UInt8)).set 0 128 = padL P B8 0 := by
          obtain ⟨d, rfl⟩ : ∃ d, P = d + 9 := ⟨P - 9, by omega⟩
          show 128 :: List.replicate (d + 8) 0 = 128 :: (List.replicate (d + 9 - 9) 0 ++ (List.replicate 8 0 ++ []))
          rw [List.append_nil, List.replicate_append_replicate]
          rfl
        rw [h2] at h1
        exact h1
      have HB7 := Lib.hid hb7
      have HBG := Lib.hid hBG
      have HG := Lib.hid hG
      have bP : (0 : Int) < (P : Int) := by omega
      clear hown hgr hb6 hb7 hG hbl6 hPe hBG
      go_wp2
      go_loopw [41] (fun v41 wr => ∃ i : Nat, i ≤ 8 ∧ v41 = .int .i64 (i : Int) ∧ BB wr 5 G (padL P B8 i) ∧ Below G wv wr)
        (fun v _ => 8 - (intOf v).toNat)
      case atStart => exact ⟨0, by omega, rfl, HB7.out, HBG.out⟩
      case round =>
        clear HB7 HBG fc0 ff0
        obtain ⟨i, hi8, rfl, h1, h2⟩ := hrel
        have K1 := Lib.hid h1
        have K2 := Lib.hid h2
        clear h1 h2
        by_cases hlt8 : i < 8
        · obtain ⟨X, hX⟩ : ∃ X, X = P - 1 - i := ⟨_, rfl⟩
          have fx := K1.out.cell X 0 (by rw [hX]; exact padL_cell P B8 i hP9 hlt8)
          have ffx := K1.out.free X
          unfold bv at fx
          obtain ⟨P1, hP1⟩ : ∃ v, v = P - 1 := ⟨_, rfl⟩
          obtain ⟨sh, hsh⟩ : ∃ v, v = 8 * i := ⟨_, rfl⟩
          have e1 : IntKind.i64.wrap ((P : Int) - 1) = (P1 : Int) := by rw [IntKind.wrap_i64]; omega
          have e2 : IntKind.i64.wrap ((P1 : Int) - (i : Int)) = (X : Int) := by rw [IntKind.wrap_i64]; omega
          have e3 : IntKind.i64.wrap (8 * (i : Int)) = (sh : Int) := by rw [IntKind.wrap_i64]; omega
          have bX : (X : Int) < (P : Int) := by omega
          have bi8 : (i : Int) < 8 := by omega
          have bsh : (0 : Int) ≤ (sh : Int) := by omega
          have EX := Lib.hid (And.intro hX hsh)
          clear hX hP1 hsh
          go_wp2
          go_roundw
          case rel =>
            obtain ⟨hX, hsh⟩ := EX.out
            refine ⟨i + 1, by omega, by go_num, ?_, K2.out.setCell (Nat.le_refl _) _⟩
            have h1 := K1.out.set X (UInt8.ofNat (B8 / 2 ^ (8 * i)))
            rw [hX, padL_set P B8 i hP9 hlt8, ← hX, bv_ofNat] at h1
            have h3 : ((B8 / 2 ^ (8 * i) : Nat) : Int) = (B8 : Int) / 2 ^ min sh 64 := by
              rw [show min sh 64 = 8 * i by omega]
              simp
            rw [h3] at h1
            exact h1
          case measure =>
            simp only [intOf]
            omega
        · have hi8' : i = 8 := by omega
          have hd8 := HD5.out.fresh (by rw [← HG.out]; exact K2.out)
          have hf8 := H2.out.trans (Fh.below (K2.out.mono (by omega)))
          have hrp : Rd wr 1 (.slice (some ⟨G, 0, none⟩) P P) P (bvs (padL P B8 i)) := by
            have h1 := BB.rd K1.out 0 P P (by rw [padL_length P B8 i hP9 hi8]; omega) (Nat.le_refl _) (by unfold maxLen; omega)
            rw [List.drop_zero, List.take_of_length_le (by rw [padL_length P B8 i hP9 hi8]; omega)] at h1
            exact h1
          have hpl := padL_length P B8 i hP9 hi8
          have hpp : padL P B8 i = padB n := by
            rw [hi8', HPP.out, HB8.out]
            unfold padL padB
            rw [tailB_be8]
            simp
          rw [hpp] at hrp hpl
          have hs8 : H + 1 ≤ wr.heap.size := by have := K1.out.lt; omega
          have CA := hadd_any wr H (H + 1) (by omega) hs8 m hd8 (.slice (some ⟨G, 0, none⟩) P P) (padB n) (by rw [hpl]; exact hrp) (fun _ => by simp [Value.ownBlock]; omega) (by rw [hpl, ← HNN.out]; have := HLN.out; omega)
          have HCA := Lib.hid CA
          have HF8 := Lib.hid hf8
          have HI8 := Lib.hid hi8'
          clear hd8 hf8 hrp hpl hpp CA hi8' K1 K2
          go_wp2_with fail
          refine HCA.out.mono ?_
          rintro e w9 ⟨rfl, hd9, hf9⟩
          obtain ⟨M, hM⟩ : ∃ M, M = m ++ padB n := ⟨_, rfl⟩
          rw [← hM] at hd9
          obtain ⟨st, hst⟩ : ∃ s, s = pressN (M.length / 64) S0 M := ⟨_, rfl⟩
          have hload := hd9.load
          rw [← hst] at hload
          have hout : BB w9 24 N (List.replicate 32 0) := by
            have h1 := HF8.out.trans hf9
            unfold BB
            rw [h1.block N (by omega) (by omega)]
            exact HO3.out
          have hbw : Below N w w9 := by
            have h1 := HF8.out.trans hf9
            exact HB3.out.trans ⟨h1.os, h1.tape, h1.output, h1.size, fun j hj => h1.block j (by omega) (by omega)⟩
          have hfin : shaB L.flatten = outB st.l := by
            unfold shaB
            rw [← HM.out, ← HNN.out, ← hM, hst]
          have HLD := Lib.hid hload
          have HOUT := Lib.hid hout
          have HBW := Lib.hid hbw
          have HFIN := Lib.hid hfin
          have hlt8' : (decide ((i : Int) < 8)) = false := by have := HI8.out; simp; omega
          clear hd9 hf9 hM hst hload hout hbw hfin HF8 HCA
          go_wp2_with (with_reducible refine stopAt 63 ?_)
          refine Stop.go ?_
          refine wpList_load_agg rfl 169 (.tmp 62) rfl ⟨H, 64, none⟩ rfl (wds st.l) _ HLD.out Try.underlying169 rfl (by rw [wds_length]; exact infoW8) ?_
          go_wp2
          try rw [hlt8']
          clear hlt8'
          go_loopw [64] (fun v64 wr => ∃ q : Nat, q ≤ 8 ∧ v64 = .int .i64 (q : Int) ∧ BB wr 24 N (outB (st.l.take q) ++ List.replicate (32 - 4 * q) 0) ∧ Below N w wr)
            (fun v _ => 8 - (intOf v).toNat)
          case atStart => exact ⟨0, by omega, rfl, HOUT.out, HBW.out⟩
          case round =>
            obtain ⟨q, hq8, rfl, h1, h2⟩ := hrel
            have J1 := Lib.hid h1
            have J2 := Lib.hid h2
            clear h1 h2 HOUT HBW
            by_cases hltq : q < 8
            · have bq : (q : Int) < 8 := by omega
              obtain ⟨x, hx⟩ : ∃ x, x = st.l.getD q 0 := ⟨_, rfl⟩
              obtain ⟨X, hX⟩ : ∃ n, n = x.toNat := ⟨_, rfl⟩
              have hxl : X < 4294967296 := by rw [hX]; exact x.isLt
              have hu : (wds st.l)[q]? = some (.int .u32 (X : Int)) := by
                rw [hX, hx]
                exact wds_get _ _ hltq
              have hidx := fun w' => run_index_word w' (wds st.l) q _ hltq hu
              obtain ⟨n0, e0⟩ : ∃ n, n = 4 * q := ⟨_, rfl⟩
              obtain ⟨n1, e1⟩ : ∃ n, n = n0 + 1 := ⟨_, rfl⟩
              obtain ⟨n2, e2⟩ : ∃ n, n = n0 + 2 := ⟨_, rfl⟩
              obtain ⟨n3, e3⟩ : ∃ n, n = n0 + 3 := ⟨_, rfl⟩
              have g0 : IntKind.i64.wrap (4 * (q : Int)) = (n0 : Int) := by rw [IntKind.wrap_i64]; omega
              have g1 : IntKind.i64.wrap ((n0 : Int) + 1) = (n1 : Int) := by rw [IntKind.wrap_i64]; omega
              have g2 : IntKind.i64.wrap ((n0 : Int) + 2) = (n2 : Int) := by rw [IntKind.wrap_i64]; omega
              have g3 : IntKind.i64.wrap ((n0 : Int) + 3) = (n3 : Int) := by rw [IntKind.wrap_i64]; omega
              have b0 : (n0 : Int) < 32 := by omega
              have b1 : (n1 : Int) < 32 := by omega
              have b2 : (n2 : Int) < 32 := by omega
              have b3 : (n3 : Int) < 32 := by omega
              have hzl : (outB (st.l.take q)).length = 4 * q := by rw [outB_length, List.length_take]; simp [St.l]; omega
              have hz : ∀ j, 4 * q ≤ j → j < 32 → (outB (st.l.take q) ++ List.replicate (32 - 4 * q) 0)[j]? = some 0 := by
                intro j hj1 hj2
                rw [List.getElem?_append_right (by omega), List.getElem?_replicate, if_pos (by omega)]
              have c0 := J1.out.cell n0 0 (hz n0 (by omega) (by omega))
              have c1 := J1.out.cell n1 0 (hz n1 (by omega) (by omega))
              have c2 := J1.out.cell n2 0 (hz n2 (by omega) (by omega))
              have c3 := J1.out.cell n3 0 (hz n3 (by omega) (by omega))
              have d0 := J1.out.free n0
              have d1 := J1.out.free n1
              have d2 := J1.out.free n2
              have d3 := J1.out.free n3
              unfold bv at c0 c1 c2 c3
              have ne01 : ¬ (n0 = n1) := by omega
              have ne02 : ¬ (n0 = n2) := by omega
              have ne03 : ¬ (n0 = n3) := by omega
              have ne12 : ¬ (n1 = n2) := by omega
              have ne13 : ¬ (n1 = n3) := by omega
              have ne23 : ¬ (n2 = n3) := by omega
              have EE := Lib.hid (And.intro e0 (And.intro e1 (And.intro e2 e3)))
              have EX := Lib.hid (And.intro hx hX)
              have HZL := Lib.hid hzl
              clear hx hX hu hz hzl e0 e1 e2 e3
              go_wp2
              go_roundw
              case rel =>
                obtain ⟨e0, e1, e2, e3⟩ := EE.out
                refine ⟨q + 1, by omega, by go_num, ?_, (((J2.out.setCell (Nat.le_refl _) _).setCell (Nat.le_refl _) _).setCell (Nat.le_refl _) _).setCell (Nat.le_refl _) _⟩
                have h1 := (((J1.out.set n0 (UInt8.ofNat (X / 16777216))).set n1 (UInt8.ofNat (X / 65536))).set n2 (UInt8.ofNat (X / 256))).set n3 (UInt8.ofNat X)
                rw [e3, e2, e1, e0, show 32 - 4 * q = (32 - 4 * (q + 1)) + 4 by omega, ← HZL.out, put4] at h1
                rw [outB_take st.l q (by simp [St.l]; omega), ← EX.out.1]
                simp only [bv_ofNat] at h1
                unfold wordB
                rw [← EX.out.2]
                rw [e3, e2, e1, e0, ← HZL.out]
                rw [show ((X / 16777216 : Nat) : Int) % 256 = (X : Int) / 16777216 by omega, show ((X / 65536 : Nat) : Int) % 256 = (X : Int) / 65536 % 256 by omega, show ((X / 256 : Nat) : Int) % 256 = (X : Int) / 256 % 256 by omega] at h1
                exact h1
              case measure =>
                simp only [intOf]
                omega
            · have hq8' : q = 8 := by omega
              have h1 : BB wr 24 N (outB st.l) := by
                have h2 := J1.out
                rw [hq8', List.take_of_length_le (by simp [St.l])] at h2
                simpa using h2
              obtain ⟨O, hO⟩ : ∃ o, o = outB st.l := ⟨_, rfl⟩
              have hOl : O.length = 32 := by rw [hO, outB_length]; rfl
              rw [← hO] at h1
              have hOf : O = shaB L.flatten := by rw [hO, HFIN.out]
              have HB9 := Lib.hid h1
              have HOL := Lib.hid hOl
              have HOF := Lib.hid hOf
              have hq8b : (decide ((q : Int) < 8)) = false := by simp; omega
              clear h1 hOl hOf hO hq8' hq8b J1
              go_wp2_with (with_reducible refine stopAt 95 ?_)
              refine Stop.go ?_
              refine wpList_load_agg rfl 24 (.tmp 2) rfl ⟨N, 0, none⟩ rfl (bvs O) _ (At.block HB9.out).load Try.underlying24 rfl (by rw [bvs_length, HOL.out]; exact infoHash) ?_
              go_wp2_with (with_reducible refine stopStore 24 ?_)
              refine Stop.go ?_
              refine wpList_store_var rfl 24 (.tmp 2) (.tmp 95) rfl N _ rfl _ (bvs O) rfl HB9.out (by simp [HOL.out]) (bvs_one _) (by rw [bvs_length, HOL.out]; exact infoHash) ?_
              intro wz hbz hoz
              have BZ := Below.only J2.out hoz (Nat.le_refl _)
              rw [HN.out] at BZ
              have HBZ := Lib.hid hbz
              have HBL := Lib.hid BZ
              clear hbz hoz BZ
              go_wp2
              exact bodyPost_ret (results_cell1 rfl _ _ N _ _ _ _ rfl HBZ.out Try.underlying24 rfl (by simp [HOL.out, infoHash])) rfl ⟨by rw [HOF.out], HBL.out⟩
end Go.Proofs.Ytbabjepblakboaa
