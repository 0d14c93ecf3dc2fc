/- ShaSums: how much is gone through, and the law. -/
import Derived.Test.YtdljpgihfjpnjaaSz
namespace Go.Proofs.Ytdljpgihfjpnjaa
set_option linter.unusedVariables false
set_option linter.unusedSimpArgs false
open Go.RowKit Go.Lib

def muS : List (List UInt8) → Nat
  | [] => 0
  | x :: l => min x.length 5001 + muS l

theorem muS_append (a b : List (List UInt8)) : muS (a ++ b) = muS a + muS b := by
  induction a with
  | nil => simp [muS]
  | cons x a ih => simp [muS, ih]; omega

theorem muS_take (L : List (List UInt8)) (k : Nat) (h : k < L.length) : muS (L.take (k + 1)) = muS (L.take k) + min L[k].length 5001 := by
  rw [List.take_add_one, List.getElem?_eq_getElem h, muS_append]
  simp [muS]

theorem muS_le (L : List (List UInt8)) : muS L ≤ 5001 * L.length := by
  induction L with
  | nil => simp [muS]
  | cons x l ih => simp [muS]; omega

def muB (L : List (List UInt8)) : Bool := decide (100 < L.length) || decide (5000 < muS (L.take 101))

theorem muB_false (L : List (List UInt8)) (h : muB L = false) : L.length ≤ 100 ∧ L.flatten.length ≤ 5000 := by
  unfold muB at h
  simp only [Bool.or_eq_false_iff, decide_eq_false_iff_not] at h
  obtain ⟨h1, h2⟩ := h
  rw [List.take_of_length_le (by omega)] at h2
  refine ⟨by omega, ?_⟩
  clear h1
  have key : ∀ l : List (List UInt8), muS l ≤ 5000 → l.flatten.length = muS l := by
    intro l
    induction l with
    | nil => intro _; rfl
    | cons x l ih =>
      intro hx
      simp only [muS] at hx ⊢
      rw [List.flatten_cons, List.length_append, ih (by omega)]
      omega
  rw [key L (by omega)]
  omega

set_option maxRecDepth 100000 in
set_option maxHeartbeats 400000 in
theorem much_any (w : World) (v : Value) (L : List (List UInt8)) (hp : Pts w v L) :
    Calls Try.prog 35 #[v] w fun e w' => e = .returned (.bool (muB L)) ∧ w' = w := by
  obtain ⟨a0, c0, rfl⟩ := hp.slice
  have HP := Lib.hid hp; clear hp
  obtain ⟨B, hB⟩ : ∃ B, B = muB L := ⟨_, rfl⟩
  rw [← hB]
  have HB := Lib.hid hB
  clear hB
  go_enter Try.func35, Try.ntmps35
  go_wp2
  go_loopw [3, 4] (fun v3 v4 wr => wr = w ∧ ∃ k n : Nat, k ≤ L.length ∧ k ≤ 101 ∧ v4 = .int .i64 (k : Int) ∧ v3 = .int .i64 (n : Int) ∧ n = muS (L.take k))
    (fun _ v _ => 101 - (intOf v).toNat)
  case atStart => exact ⟨rfl, 0, 0, by omega, by omega, rfl, rfl, rfl⟩
  case round =>
    obtain ⟨rfl, k, n, hk, hk1, rfl, rfl, hn⟩ := hrel
    have hnb : n ≤ 1000000 := by
      have h1 := muS_le (L.take k)
      rw [List.length_take] at h1
      omega
    have HN := Lib.hid hn
    clear hn
    by_cases hlt : k < L.length
    · by_cases h100 : k ≤ 100
      · obtain ⟨vs, hr, hel⟩ := HP.out
        obtain ⟨u, hu, hru⟩ := hel k _ (List.getElem?_eq_getElem hlt)
        rcases hr.2 with ⟨_, h0⟩ | ⟨ad, c, he, _, _, hcell⟩
        · omega
        simp only [Value.slice.injEq, true_and] at he
        obtain ⟨rfl, rfl⟩ := he
        obtain ⟨a1, c1, rfl⟩ := hru.slice
        obtain ⟨xl, hxl⟩ : ∃ n, n = L[k].length := ⟨_, rfl⟩
        have fk : wr.cell? (ad.add k) = some (.slice a1 xl c1) := by rw [hxl]; exact hcell k _ hu
        have bk : (k : Int) < (L.length : Int) := by omega
        have b100 : (k : Int) ≤ 100 := by omega
        have HX := Lib.hid hxl
        have HU : Hid (muS (L.take (k + 1)) = n + min xl 5001) := Lib.hid (by rw [muS_take L k hlt, HN.out, hxl])
        clear hr hel hu hru hcell hxl
        by_cases hmin : xl ≤ 5001
        · have bm : (xl : Int) ≤ 5001 := by omega
          have gx : IntKind.i64.wrap ((n : Int) + (xl : Int)) = ((n + xl : Nat) : Int) := by rw [IntKind.wrap_i64]; omega
          go_wp2
          go_roundw
          case rel =>
            refine ⟨trivial, k + 1, n + xl, by omega, by omega, by go_num, ?_, ?_⟩
            · simp only [Value.int.injEq, true_and]; omega
            · rw [HU.out]; omega
          case measure =>
            simp only [intOf]
            omega
        · have bm : ¬ ((xl : Int) ≤ 5001) := by omega
          have bm2 : (5001 : Int) ≤ (xl : Int) := by omega
          go_wp2
          go_roundw
          case rel =>
            refine ⟨trivial, k + 1, n + 5001, by omega, by omega, by go_num, ?_, ?_⟩
            · simp only [Value.int.injEq, true_and]; omega
            · rw [HU.out]; omega
          case measure =>
            simp only [intOf]
            omega
      · have b100 : ¬ ((k : Int) ≤ 100) := by omega
        have bk : (k : Int) < (L.length : Int) := by omega
        have bL : (100 : Int) < (L.length : Int) := by omega
        have hBt : B = true := by rw [HB.out]; unfold muB; simp; left; omega
        have HBT := Lib.hid hBt
        clear hBt
        go_wp2
        go_ret
        exact ⟨by rw [HBT.out]; rfl, rfl⟩
    · have bk : ¬ ((k : Int) < (L.length : Int)) := by omega
      have hkL : k = L.length := by omega
      have hkk : L.take 101 = L.take k := by rw [List.take_of_length_le (by omega), List.take_of_length_le (by omega)]
      by_cases h100 : 100 < L.length
      · have bL : (100 : Int) < (L.length : Int) := by omega
        have hBt : B = true := by rw [HB.out]; unfold muB; simp; left; omega
        have HBT := Lib.hid hBt
        clear hBt hkL hkk
        go_wp2
        go_ret
        exact ⟨by rw [HBT.out]; rfl, rfl⟩
      · have bL : ¬ ((100 : Int) < (L.length : Int)) := by omega
        have hBt : B = decide (5000 < n) := by
          rw [HB.out]; unfold muB
          rw [hkk, ← HN.out]
          simp [h100]
        have HBT := Lib.hid hBt
        clear hBt hkL hkk
        go_wp2
        go_ret
        exact ⟨by rw [HBT.out]; simp; omega, rfl⟩

theorem hash_eq_self (w : World) (xs : List UInt8) (hx : xs.length = 32) :
    (binOp .eql 30 (.agg (bvs xs).toArray) (.agg (bvs xs).toArray)).run Try.prog w = .ok (.bool true) w := by
  have h := hash_eq w xs xs hx hx
  rw [h]
  simp

set_option maxRecDepth 100000 in
theorem sums_any (w : World) (v : Value) (L : List (List UInt8)) (s : List UInt8) (hp : Pts w v L) :
    Calls Try.prog 7 #[v, .string ⟨s.toArray⟩] w fun e w' => e = .returned (.bool true) ∧ Below w.heap.size w w' := by
  obtain ⟨a0, c0, rfl⟩ := hp.slice
  have hT : (⟨s.toArray⟩ : ByteArray).size = s.length := by simp [ByteArray.size]
  have CM := much_any w _ L hp
  have HK := Lib.hid (fun w0 => sknown_any w0)
  cases hmu : muB L
  · obtain ⟨h100, h5000⟩ := muB_false L hmu
    rw [hmu] at CM
    by_cases hs : 3000 < s.length
    · have hTi : (3000 : Int) < ((⟨s.toArray⟩ : ByteArray).size : Int) := by omega
      generalize (⟨s.toArray⟩ : ByteArray) = T at *
      have HM := Lib.hid CM
      clear CM hmu hp hT
      go_enter Try.func7, Try.ntmps7
      go_wp2_with fail
      refine HM.out.mono ?_
      rintro e w' ⟨rfl, rfl⟩
      go_wp2_with fail
      refine (HK.out _).mono ?_
      rintro e w2 ⟨rfl, h2⟩
      have H2 := Lib.hid h2
      clear h2
      go_wp2
      go_ret
      exact ⟨rfl, H2.out⟩
    · have hTi : ¬ ((3000 : Int) < ((⟨s.toArray⟩ : ByteArray).size : Int)) := by omega
      obtain ⟨Z, hZ⟩ : ∃ Z, Z = shaB L.flatten := ⟨_, rfl⟩
      obtain ⟨Y, hY⟩ : ∃ Z, Z = shaB (textB s L.flatten) := ⟨_, rfl⟩
      have hZl : Z.length = 32 := by rw [hZ]; exact shaB_length _
      have hYl : Y.length = 32 := by rw [hY]; exact shaB_length _
      have C1 := fun w0 h0 => join_any w0 (.slice a0 L.length c0) L h0 (by omega) (by omega)
      have C2 := fun w0 h0 => sum_any w0 (.slice a0 L.length c0) L h0 (by omega) (by omega)
      have C3 := fun w0 v0 h0 => rsum_any w0 v0 L.flatten h0 (by omega)
      have C4 := fun w0 h0 => tag_any w0 (.slice a0 L.length c0) s L h0 (by omega) (by omega) (by omega)
      have C5 := fun w0 v0 h0 => rtag_any w0 v0 s L.flatten h0 (by omega) (by omega)
      rw [← hZ] at C2 C3
      rw [← hY] at C4 C5
      obtain ⟨M, hM⟩ : ∃ M, M = L.flatten := ⟨_, rfl⟩
      rw [← hM] at C1 C3 C5
      have HC1 := Lib.hid C1
      have HC2 := Lib.hid C2
      have HC3 := Lib.hid C3
      have HC4 := Lib.hid C4
      have HC5 := Lib.hid C5
      have HZ := Lib.hid (And.intro hZl hYl)
      have HP := Lib.hid hp
      have HM := Lib.hid CM
      clear C1 C2 C3 C4 C5 hZ hY hZl hYl hp CM hmu hT h5000 hM
      generalize (⟨s.toArray⟩ : ByteArray) = T at *
      obtain ⟨n, hn⟩ : ∃ n, n = L.length := ⟨_, rfl⟩
      rw [← hn] at HP HM HC1 HC2 HC4 ⊢
      clear hn h100
      go_enter Try.func7, Try.ntmps7
      go_wp2_with fail
      refine HM.out.mono ?_
      rintro e w' ⟨rfl, rfl⟩
      go_wp2_with fail
      refine (HC1.out _ HP.out).mono ?_
      rintro e w1 ⟨v1, rfl, hr1, hb1⟩
      obtain ⟨a1, c1, rfl⟩ := hr1.slice
      have HR1 := Lib.hid hr1
      have HB1 := Lib.hid hb1
      clear hr1 hb1
      go_wp2_with fail
      refine (HC2.out w1 (HP.out.fresh HB1.out)).mono ?_
      rintro e w2 ⟨rfl, hb2⟩
      have HR2 := Lib.hid (HR1.out.fresh hb2)
      have HB2 := Lib.hid (HB1.out.trans (hb2.mono HB1.out.size))
      clear hb2 HR1
      go_wp2_with fail
      refine (HC3.out w2 _ HR2.out).mono ?_
      rintro e w3 ⟨rfl, hb3⟩
      have HR3 := Lib.hid (HR2.out.fresh hb3)
      have HB3 := Lib.hid (HB2.out.trans (hb3.mono HB2.out.size))
      clear hb3 HR2
      go_wp2_with (with_reducible refine stopAt 20 ?_)
      refine Stop.go ?_
      refine wpList_bin rfl .eql 30 30 (.tmp 17) (.tmp 19) rfl (.bool true) (eqGuard_agg _ _ _ _ _ _ _ (by kernel_rfl)) (hash_eq_self w3 Z HZ.out.1) ?_
      go_wp2_with fail
      refine (HC4.out w3 (HP.out.fresh HB3.out)).mono ?_
      rintro e w4 ⟨rfl, hb4⟩
      have HR4 := Lib.hid (HR3.out.fresh hb4)
      have HB4 := Lib.hid (HB3.out.trans (hb4.mono HB3.out.size))
      clear hb4 HR3
      go_wp2_with fail
      refine (HC5.out w4 _ HR4.out).mono ?_
      rintro e w5 ⟨rfl, hb5⟩
      have HB5 := Lib.hid (HB4.out.trans (hb5.mono HB4.out.size))
      clear hb5 HR4
      go_wp2_with (with_reducible refine stopAt 28 ?_)
      refine Stop.go ?_
      refine wpList_unguard' rfl ?_
      refine wpList_bin rfl .eql 30 30 (.tmp 24) (.tmp 27) rfl (.bool true) (eqGuard_agg _ _ _ _ _ _ _ (by kernel_rfl)) (hash_eq_self w5 Y HZ.out.2) ?_
      go_wp2_with fail
      refine (HK.out _).mono ?_
      rintro e w6 ⟨rfl, h6⟩
      have H6 := Lib.hid (HB5.out.trans (h6.mono HB5.out.size))
      clear h6
      go_wp2
      go_ret
      exact ⟨rfl, H6.out⟩
  · rw [hmu] at CM
    generalize (⟨s.toArray⟩ : ByteArray) = T at *
    have HM := Lib.hid CM
    clear CM hmu hp hT
    go_enter Try.func7, Try.ntmps7
    go_wp2_with fail
    refine HM.out.mono ?_
    rintro e w' ⟨rfl, rfl⟩
    go_wp2_with fail
    refine (HK.out _).mono ?_
    rintro e w2 ⟨rfl, h2⟩
    have H2 := Lib.hid h2
    clear h2
    go_wp2
    go_ret
    exact ⟨rfl, H2.out⟩
end Go.Proofs.Ytdljpgihfjpnjaa
