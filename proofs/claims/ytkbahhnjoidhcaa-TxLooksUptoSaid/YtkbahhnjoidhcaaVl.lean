/- tx.Spends, the reference's: the walks. -/
import Derived.Test.YtkbahhnjoidhcaaVj
namespace Go.Proofs.Ytkbahhnjoidhcaa
set_option linter.unusedVariables false
set_option linter.unusedSimpArgs false
open Go.RowKit

theorem samePt_tr {x y z : InD} (h1 : samePt x y = true) (h2 : samePt y z = true) : samePt x z = true := by
  simp only [samePt, decide_eq_true_eq] at *
  exact ⟨h1.1.trans h2.1, h1.2.trans h2.2⟩

theorem inSet_put {l m : List InD} {x : InD} (h : ∀ z, inSet l z = inSet m z) : ∀ z, inSet (if inSet l x then l else l ++ [x]) z = inSet (m ++ [x]) z := by
  intro z
  have e : inSet (m ++ [x]) z = (inSet m z || samePt z x) := by simp [inSet, List.any_append]
  rw [e]
  cases hx : inSet l x with
  | true =>
    rw [if_pos rfl, h z]
    cases hz : samePt z x with
    | false => simp
    | true =>
      rw [h x] at hx
      have : inSet m z = true := by
        simp only [inSet, List.any_eq_true] at hx ⊢
        obtain ⟨y, hy, hs⟩ := hx
        exact ⟨y, hy, samePt_tr hz hs⟩
      simp [this]
  | false =>
    rw [if_neg (by simp)]
    have e2 : inSet (l ++ [x]) z = (inSet l z || samePt z x) := by simp [inSet, List.any_append]
    rw [e2, h z]

/-- Spend two one outpoint? -/
def spendsB (x y : TxD) : Bool := y.ins.any (fun z => inSet x.ins z)

theorem spends_turn (x y : TxD) : (x.ins.any fun a => y.ins.any fun b => samePt a b) = spendsB x y := by
  unfold spendsB inSet
  rw [Bool.eq_iff_iff]
  simp only [List.any_eq_true]
  constructor
  · rintro ⟨a, ha, b, hb, hs⟩
    exact ⟨b, hb, a, ha, by rw [samePt_comm]; exact hs⟩
  · rintro ⟨b, hb, a, ha, hs⟩
    exact ⟨a, ha, b, hb, by rw [samePt_comm]; exact hs⟩

set_option maxRecDepth 100000 in
theorem spends1_any (w : World) (g M : Nat) (l : List InD) (x : InD) (u : Value) (hx : InOk x) (hu : u.oneCell' = true) (hg : CB w 78 g [.map (some M)]) (hm : MapSet w M l) :
    Calls Try.prog 65 #[.agg (inC (x, u)).toArray, .pointer (some ⟨g, 0, none⟩)] w fun e w' => e = .returned (.bool (inSet l x)) ∧ Below w.heap.size w w' := by
  have HX := Lib.hid (And.intro hx hu)
  have hl := inC_length (x := (x, u)) hx
  obtain ⟨X, hX⟩ : ∃ X, X = inC (x, u) := ⟨_, rfl⟩
  rw [← hX] at hl ⊢
  have HXX := Lib.hid (And.intro hX hl)
  have HG := Lib.hid hg
  have HM := Lib.hid hm
  obtain ⟨B, hB⟩ : ∃ B, B = inSet l x := ⟨_, rfl⟩
  rw [← hB]
  have HB := Lib.hid hB
  clear hx hu hl hX hg hm hB
  go_enter Try.func65, Try.ntmps65
  go_wp2_with (with_reducible refine stopAt 4 ?_)
  refine Stop.go ?_
  obtain ⟨w1, h1, k1, b1, s1⟩ := alloc_cb w 44 X
  change wpList _ _ _ _ _ (w.alloc (.cells X.toArray 44))
  rw [← h1]
  have BB := Lib.hid b1
  have K1 : Hid (CB w1 44 w.heap.size (inC (x, u))) := Lib.hid (by rw [← HXX.out.1]; exact k1)
  replace HG := Lib.hid (HG.out.fresh b1)
  replace HM := Lib.hid (HM.out.fresh b1)
  clear h1 k1 b1 s1
  have hcm := HG.out.cell 0 _ rfl
  go_wp2_with (with_reducible refine stopAt 6 ?_)
  refine Stop.go ?_
  clear hcm
  refine wpList_load_agg rfl 41 (.tmp 5) rfl ⟨w.heap.size, 0, none⟩ rfl (ptC x) _ (At.load (At.pre (by have h := At.block K1.out; rw [inC_pt] at h; exact h))) Try.underlying41 rfl (by rw [ptC_length HX.out.1]; exact infoPt) ?_
  go_wp2_with (with_reducible refine stopAt 7 ?_)
  refine Stop.go ?_
  refine wpList_lookup_set rfl (.tmp 4) (.tmp 6) rfl M _ x rfl rfl HM.out HX.out.1 ?_
  rw [← HB.out]
  have hfd := run_field_set
  go_wp2
  go_ret
  exact ⟨rfl, BB.out⟩

set_option maxRecDepth 100000 in
set_option maxHeartbeats 4000000 in
theorem indexIn_any (F : Nat → Prop) (w : World) (g M : Nat) (l : List InD) (v : Value) (ys : List InD) (hi : Ins F w v ys) (hg : CB w 78 g [.map (some M)]) (hm : MapSet w M l) :
    Calls Try.prog 89 #[v, .func (.func 65) #[] #[.pointer (some ⟨g, 0, none⟩)]] w fun e w' => (∃ r : Int, e = .returned (.int .i64 r) ∧ decide (0 ≤ r) = ys.any (fun z => inSet l z)) ∧ Below w.heap.size w w' := by
  obtain ⟨a0, c0, rfl⟩ := hi.slice
  obtain ⟨N, hN⟩ : ∃ N, N = ys.length := ⟨_, rfl⟩
  obtain ⟨us, hlu, hoku, hru, heu⟩ := hi
  rw [← hN] at hlu hru
  rw [← hN]
  change RdF F w 34 (.slice a0 N c0) N _ at hru
  have bN' : (N : Int) ≤ 9223372036854775807 := rd_small' hru.1
  have HI := Lib.hid hru.1
  have HE := Lib.hid heu
  have HL := Lib.hid (And.intro hN (And.intro hlu hoku))
  have HG := Lib.hid hg
  have HM := Lib.hid hm
  clear hN hlu hoku hru heu hg hm
  go_enter Try.func89, Try.ntmps89
  go_wp2
  go_loopw [8] (fun v8 wr => Below w.heap.size w wr ∧ ∃ k : Nat, k ≤ N ∧ v8 = .int .i64 (k : Int) ∧ (ys.take k).any (fun z => inSet l z) = false)
    (fun v _ => N - (RowKit.intOf v).toNat)
  case atStart => exact ⟨Below.refl _ _, 0, Nat.zero_le _, rfl, rfl⟩
  case round =>
    obtain ⟨hb, k, hk, rfl, hn⟩ := hrel
    have BB := Lib.hid hb
    have NN := Lib.hid hn
    clear hb hn
    by_cases hlt : k < N
    · obtain ⟨xi, hx⟩ : ∃ z, ys[k]? = some z := ⟨_, List.getElem?_eq_getElem (by rw [← HL.out.1]; exact hlt)⟩
      obtain ⟨ux, hux⟩ : ∃ z, us[k]? = some z := ⟨_, List.getElem?_eq_getElem (by rw [HL.out.2.1]; exact hlt)⟩
      obtain ⟨ad, c, he⟩ := rd_some HI.out (by omega)
      simp only [Value.slice.injEq, true_and] at he
      obtain ⟨rfl, rfl⟩ := he
      have hz : (ys.zip us)[k]? = some (xi, ux) := by rw [List.getElem?_zip_eq_some]; exact ⟨hx, hux⟩
      have hon : ux.oneCell' = true := by obtain ⟨_, _, e⟩ := (HE.out k xi ux hx hux).1.slice; rw [e]; rfl
      have hok := HL.out.2.2 xi (List.mem_of_getElem? hx)
      have HC := Lib.hid ((HI.out.fresh BB.out).at (fun z hz => inC_length (HL.out.2.2 _ (List.of_mem_zip hz).1)) hz)
      have HX := Lib.hid (And.intro hx (And.intro hok hon))
      have ik : (k : Int) < (N : Int) := by omega
      have HK := Lib.hid hlt
      have C := spends1_any wr g M l xi ux hok hon (HG.out.fresh BB.out) (HM.out.fresh BB.out)
      obtain ⟨B, hB⟩ : ∃ B, B = inSet l xi := ⟨_, rfl⟩
      rw [← hB] at C
      replace C := Lib.hid C
      have HB := Lib.hid hB
      clear hx hux hz hon hok hlt hk hB
      go_wp2_with (with_reducible refine stopAt 15 ?_)
      refine Stop.go ?_
      refine wpList_load_agg rfl 44 (.tmp 14) rfl (ad.add (k * 34)) rfl (inC (xi, ux)) _ HC.out Try.underlying44 rfl (by rw [inC_length HX.out.2.1]; exact infoIn) ?_
      go_wp2_with fail
      refine (C.out).mono ?_
      rintro e w2 ⟨rfl, b2⟩
      have Q := Lib.hid (BB.out.tr b2)
      clear b2 C HC
      cases B
      · have hn2 := Lib.hid (show (ys.take (k + 1)).any (fun z => inSet l z) = false by
          rw [List.take_add_one, HX.out.1, Option.toList, List.any_append, NN.out]
          simp [← HB.out])
        go_wp2
        go_roundw
        case rel => exact ⟨Q.out, k + 1, HK.out, by go_num, hn2.out⟩
        case measure => simp only [RowKit.intOf]; have := HK.out; omega
      · have hy2 := Lib.hid (show ys.any (fun z => inSet l z) = true by
          rw [List.any_eq_true]
          exact ⟨xi, List.mem_of_getElem? HX.out.1, HB.out.symm⟩)
        go_wp2
        go_ret
        exact ⟨⟨_, rfl, by rw [hy2.out, decide_eq_true]; exact Int.natCast_nonneg k⟩, Q.out⟩
    · have ik : ¬ ((k : Int) < (N : Int)) := by omega
      have hn2 := Lib.hid (show ys.any (fun z => inSet l z) = false by
        have h := NN.out
        rwa [List.take_of_length_le (by rw [← HL.out.1]; omega)] at h)
      clear hlt hk
      go_wp2
      go_ret
      exact ⟨⟨_, rfl, by rw [hn2.out]; rfl⟩, BB.out⟩

set_option maxRecDepth 100000 in
theorem containsIn_any (F : Nat → Prop) (w : World) (g M : Nat) (l : List InD) (v : Value) (ys : List InD) (hi : Ins F w v ys) (hg : CB w 78 g [.map (some M)]) (hm : MapSet w M l) :
    Calls Try.prog 64 #[v, .func (.func 65) #[] #[.pointer (some ⟨g, 0, none⟩)]] w fun e w' => e = .returned (.bool (ys.any (fun z => inSet l z))) ∧ Below w.heap.size w w' := by
  have C := Lib.hid (indexIn_any F w g M l v ys hi hg hm)
  obtain ⟨B, hB⟩ : ∃ B, B = ys.any (fun z => inSet l z) := ⟨_, rfl⟩
  rw [← hB] at C ⊢
  obtain ⟨a0, c0, rfl⟩ := hi.slice
  clear hi hg hm hB
  go_enter Try.func64, Try.ntmps64
  go_wp2_with fail
  refine (C.out).mono ?_
  rintro e w2 ⟨⟨r, rfl, hr⟩, b2⟩
  have HR := Lib.hid hr
  have Q := Lib.hid b2
  clear hr b2 C
  go_wp2
  go_ret
  exact ⟨by rw [← HR.out] <;> rfl, Q.out⟩

end Go.Proofs.Ytkbahhnjoidhcaa
