/- slices.EqualFunc of inputs: the walk. -/
import Derived.Test.YtkbahhnjoidhcaaXe
namespace Go.Proofs.Ytkbahhnjoidhcaa
set_option linter.unusedVariables false
set_option linter.unusedSimpArgs false
open Go.RowKit

set_option maxRecDepth 100000 in
set_option maxHeartbeats 2000000 in
theorem equalf_in (F G : Nat → Prop) (w : World) (v u : Value) (l m : List InD) (hv : Ins F w v l) (hu : Ins G w u m) :
    Calls Try.prog 61 #[v, u, .func (.func 62) #[] #[]] w fun e w' => e = .returned (.bool (decide (l = m))) ∧ Below w.heap.size w w' := by
  obtain ⟨a0, c0, rfl⟩ := hv.slice
  obtain ⟨a1, c1, rfl⟩ := hu.slice
  obtain ⟨N, hN⟩ : ∃ N, N = l.length := ⟨_, rfl⟩
  obtain ⟨M, hM⟩ : ∃ M, M = m.length := ⟨_, rfl⟩
  obtain ⟨R, hR⟩ : ∃ R, R = decide (l = m) := ⟨_, rfl⟩
  rw [← hR]
  by_cases hNM : N = M
  · have HR := Lib.hid hR
    have HN := Lib.hid (And.intro hN hM)
    rw [← hN] at hv ⊢
    rw [← hM, ← hNM] at hu ⊢
    have HM := Lib.hid hNM
    obtain ⟨us, hl_us, hok_us, hrd_us, he_us⟩ := hv
    obtain ⟨vs, hl_vs, hok_vs, hrd_vs, he_vs⟩ := hu
    rw [← hN] at hrd_us hl_us
    rw [← hM, ← hNM] at hrd_vs hl_vs
    have bN : (N : Int) ≤ maxLen := by
      have h1 : N ≤ maxLen := by
        have := hrd_us.1.2
        rcases this with ⟨he, _⟩ | ⟨ad, c', he, h2, h3, _⟩
        · simp only [Value.slice.injEq] at he
          omega
        · simp only [Value.slice.injEq] at he
          omega
      omega
    have bN' : (N : Int) ≤ 9223372036854775807 := by unfold maxLen at bN; omega
    have HV := Lib.hid hrd_us.1
    have HU := Lib.hid hrd_vs.1
    have HL := Lib.hid (And.intro hl_us hl_vs)
    have HE1 := Lib.hid he_us
    have HE2 := Lib.hid he_vs
    have HOK : Hid ((∀ x ∈ l.zip us, (inC x).length = 34) ∧ ∀ x ∈ m.zip vs, (inC x).length = 34) := Lib.hid ⟨fun x hx => inC_length (hok_us _ (List.of_mem_zip hx).1), fun x hx => inC_length (hok_vs _ (List.of_mem_zip hx).1)⟩
    have HI := Lib.hid (And.intro hok_us hok_vs)
    clear hok_us hok_vs
    clear hR hN hM hNM bN hrd_us hrd_vs hl_us hl_vs he_us he_vs
    go_enter Try.func61, Try.ntmps61
    go_wp2
    go_loopw [7, 8, 9, 17] (fun v7 v8 v9 v17 wr => Below w.heap.size w wr ∧ ∃ k : Nat, k ≤ N ∧ v17 = .int .i64 (k : Int) ∧ l.take k = m.take k)
      (fun _ _ _ v _ => N - (RowKit.intOf v).toNat)
    case atStart => exact ⟨Below.refl _ _, 0, by omega, rfl, rfl⟩
    case round =>
      obtain ⟨hb, k, hk, rfl, ht⟩ := hrel
      have HB := Lib.hid hb
      have HT := Lib.hid ht
      clear hb ht
      by_cases hlt : k < N
      · obtain ⟨x, hx⟩ : ∃ x, l[k]? = some x := ⟨_, List.getElem?_eq_getElem (by rw [← HN.out.1]; exact hlt)⟩
        obtain ⟨y, hy⟩ : ∃ y, m[k]? = some y := ⟨_, List.getElem?_eq_getElem (by rw [← HN.out.2, ← HM.out]; exact hlt)⟩
        obtain ⟨ux, hux⟩ : ∃ z, us[k]? = some z := ⟨_, List.getElem?_eq_getElem (by rw [HL.out.1]; exact hlt)⟩
        obtain ⟨uy, huy⟩ : ∃ z, vs[k]? = some z := ⟨_, List.getElem?_eq_getElem (by rw [HL.out.2]; exact hlt)⟩
        obtain ⟨ad, c, he⟩ := rd_some HV.out (by omega)
        simp only [Value.slice.injEq, true_and] at he
        obtain ⟨rfl, rfl⟩ := he
        obtain ⟨bd, d, he⟩ := rd_some HU.out (by omega)
        simp only [Value.slice.injEq, true_and] at he
        obtain ⟨rfl, rfl⟩ := he
        have hz1 : (l.zip us)[k]? = some (x, ux) := by rw [List.getElem?_zip_eq_some]; exact ⟨hx, hux⟩
        have hz2 : (m.zip vs)[k]? = some (y, uy) := by rw [List.getElem?_zip_eq_some]; exact ⟨hy, huy⟩
        have HP : Hid (InOk x ∧ InOk y ∧ ux.oneCell' = true ∧ uy.oneCell' = true) := Lib.hid ⟨HI.out.1 x (List.mem_of_getElem? hx), HI.out.2 y (List.mem_of_getElem? hy), by obtain ⟨_, _, e⟩ := (HE1.out k x ux hx hux).1.slice; rw [e]; rfl, by obtain ⟨_, _, e⟩ := (HE2.out k y uy hy huy).1.slice; rw [e]; rfl⟩
        have HC1 := Lib.hid ((HV.out.fresh HB.out).at HOK.out.1 hz1)
        have HXY := Lib.hid (And.intro hx hy)
        have HW1 := Lib.hid (HE1.out k x ux hx hux)
        have HW2 := Lib.hid (HE2.out k y uy hy huy)
        have ik : (k : Int) < (N : Int) := by omega
        have HK := Lib.hid hlt
        have HZ := Lib.hid hz2
        clear hx hy hux huy hz1 hz2 hlt hk
        go_wp2_with (with_reducible refine stopAt 21 ?_)
        refine Stop.go ?_
        refine wpList_load_agg rfl 44 (.tmp 20) rfl (ad.add (k * 34)) rfl (inC (x, ux)) _ (HC1.out) Try.underlying44 rfl (by rw [inC_length (x := (x, ux)) HP.out.1]; exact infoIn) ?_
        go_wp2_with (with_reducible refine stopStore 44 ?_)
        refine Stop.go ?_
        refine wpList_store_var rfl 44 (.tmp 8) (.tmp 21) rfl wr.heap.size _ rfl _ (inC (x, ux)) rfl (heap_alloc_new wr _) (by rw [inC_length (x := (x, ux)) HP.out.1]; rfl) (inC_one x ux HP.out.2.2.1) (by rw [inC_length (x := (x, ux)) HP.out.1]; exact infoIn) ?_
        intro w2 kw2 ow2
        have bw2 : Below wr.heap.size wr w2 := Below.only ((Below.refl _ wr).alloc (Nat.le_refl _) _) ow2 (Nat.le_refl _)
        replace kw2 : CB w2 44 wr.heap.size (inC (x, ux)) := kw2
        clear ow2
        replace HB := Lib.hid (HB.out.tr bw2)
        have HC2 := Lib.hid ((HU.out.fresh HB.out).at HOK.out.2 HZ.out)
        have K1 := Lib.hid kw2
        obtain ⟨G8, hG8⟩ : ∃ g, g = wr.heap.size := ⟨_, rfl⟩
        rw [← hG8] at K1 ⊢
        clear kw2 bw2 hG8
        go_wp2_with (with_reducible refine stopAt 25 ?_)
        refine Stop.go ?_
        refine wpList_load_agg rfl 44 (.tmp 24) rfl (bd.add (k * 34)) rfl (inC (y, uy)) _ (HC2.out) Try.underlying44 rfl (by rw [inC_length (x := (y, uy)) HP.out.2.1]; exact infoIn) ?_
        go_wp2_with (with_reducible refine stopStore 44 ?_)
        refine Stop.go ?_
        refine wpList_store_var rfl 44 (.tmp 9) (.tmp 25) rfl w2.heap.size _ rfl _ (inC (y, uy)) rfl (heap_alloc_new w2 _) (by rw [inC_length (x := (y, uy)) HP.out.2.1]; rfl) (inC_one y uy HP.out.2.2.2) (by rw [inC_length (x := (y, uy)) HP.out.2.1]; exact infoIn) ?_
        intro w3 kw3 ow3
        have bw3 : Below w2.heap.size w2 w3 := Below.only ((Below.refl _ w2).alloc (Nat.le_refl _) _) ow3 (Nat.le_refl _)
        replace kw3 : CB w3 44 w2.heap.size (inC (y, uy)) := kw3
        clear ow3
        replace HB := Lib.hid (HB.out.tr bw3)
        replace K1 := Lib.hid (K1.out.fresh bw3)
        have K2 := Lib.hid kw3
        obtain ⟨G9, hG9⟩ : ∃ g, g = w2.heap.size := ⟨_, rfl⟩
        rw [← hG9] at K2 ⊢
        clear kw3 bw3 hG9
        go_wp2_with (with_reducible refine stopAt 27 ?_)
        refine Stop.go ?_
        refine wpList_load_agg rfl 44 (.tmp 8) rfl ⟨G8, 0, none⟩ rfl (inC (x, ux)) _ (At.block K1.out).load Try.underlying44 rfl (by rw [inC_length (x := (x, ux)) HP.out.1]; exact infoIn) ?_
        go_wp2_with (with_reducible refine stopAt 28 ?_)
        refine Stop.go ?_
        refine wpList_load_agg rfl 44 (.tmp 9) rfl ⟨G9, 0, none⟩ rfl (inC (y, uy)) _ (At.block K2.out).load Try.underlying44 rfl (by rw [inC_length (x := (y, uy)) HP.out.2.1]; exact infoIn) ?_
        have CT := Lib.hid (tsame1_any w3 x y ux uy HP.out.1 HP.out.2.1 (HW1.out.1.fresh HB.out) (HW2.out.1.fresh HB.out))
        cases hxy : decide (x = y)
        · rw [hxy] at CT
          go_wp2_with fail
          refine (CT.out).mono ?_
          rintro e w4 ⟨rfl, b4⟩
          replace HB := Lib.hid (HB.out.tr b4)
          have hf : Hid (R = false) := Lib.hid (by
            rw [HR.out, decide_eq_false_iff_not]
            intro e
            have h1 := HXY.out.1
            rw [e, HXY.out.2] at h1
            simp only [Option.some.injEq] at h1
            rw [h1] at hxy
            simp at hxy)
          clear hxy b4 CT
          go_wp2
          go_ret
          exact ⟨by rw [hf.out]; rfl, HB.out⟩
        · rw [hxy] at CT
          go_wp2_with fail
          refine (CT.out).mono ?_
          rintro e w4 ⟨rfl, b4⟩
          replace HB := Lib.hid (HB.out.tr b4)
          have HT' := Lib.hid (take_step HXY.out.1 HXY.out.2 HT.out (of_decide_eq_true hxy))
          clear hxy b4 CT
          go_wp2
          go_roundw
          case rel => exact ⟨HB.out, k + 1, HK.out, by go_num, HT'.out⟩
          case measure => simp only [RowKit.intOf]; have := HK.out; omega
      · have ik : ¬ ((k : Int) < (N : Int)) := by omega
        have hkN : k = N := by omega
        have ht' : Hid (R = true) := Lib.hid (by
          have h1 := HT.out
          rw [List.take_of_length_le (by have := HN.out.1; omega), List.take_of_length_le (by have := HN.out.2; have := HM.out; omega)] at h1
          rw [HR.out, decide_eq_true h1])
        clear hkN
        go_wp2
        go_ret
        exact ⟨by rw [ht'.out]; rfl, HB.out⟩
  · have hf : Hid (R = false) := Lib.hid (by
      rw [hR, decide_eq_false_iff_not]
      intro e
      rw [e] at hN
      omega)
    rw [← hN, ← hM]
    have i1 : ¬ ((N : Int) = (M : Int)) := by omega
    clear hv hu hR hN hM hNM
    go_enter Try.func61, Try.ntmps61
    go_wp2
    go_ret
    exact ⟨by rw [hf.out]; rfl, Below.refl _ _⟩

end Go.Proofs.Ytkbahhnjoidhcaa
