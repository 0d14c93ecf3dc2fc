/- tx.Same's inner function: are two inputs the same? -/
import Derived.Test.YtkbahhnjoidhcaaXd
namespace Go.Proofs.Ytkbahhnjoidhcaa
set_option linter.unusedVariables false
set_option linter.unusedSimpArgs false
open Go.RowKit

theorem infoPt : (Try.prog.info? 41).map (·.size) = some 33 := by kernel_rfl
theorem infoIn : (Try.prog.info? 44).map (·.size) = some 34 := by kernel_rfl
theorem infoTx : (Try.prog.info? 37).map (·.size) = some 3 := by kernel_rfl

theorem ptC_length {x : InD} (h : InOk x) : (ptC x).length = 33 := by
  unfold InOk at h
  simp [ptC, h]

theorem inC_pt (x : InD) (u : Value) : inC (x, u) = ptC x ++ [u] := by simp [inC, ptC]

theorem At.pre {w : World} {b o : Nat} {cs ds : List Value} (h : At w b o (cs ++ ds)) : At w b o cs := fun j u hj => h j u (by rw [List.getElem?_append_left (List.getElem?_eq_some_iff.1 hj).1]; exact hj)

theorem in_pt {w : World} {ad : Addr} {x : InD} {u : Value} (h : ∀ j c, (inC (x, u))[j]? = some c → w.cell? (ad.add j) = some c) : ∀ j c, (ptC x)[j]? = some c → w.cell? (ad.add j) = some c := fun j c hj => h j c (by
  rw [inC_pt, List.getElem?_append_left (List.getElem?_eq_some_iff.1 hj).1]
  exact hj)

theorem in_wit {w : World} {ad : Addr} {x : InD} {u : Value} (h : ∀ j c, (inC (x, u))[j]? = some c → w.cell? (ad.add j) = some c) (hx : InOk x) : w.cell? ⟨ad.block, ad.off + 33, none⟩ = some u := by
  have h1 := h 33 u (by
    rw [inC_pt, List.getElem?_append_right (by rw [ptC_length hx]; exact Nat.le_refl _), ptC_length hx]
    rfl)
  rwa [show ad.add 33 = ⟨ad.block, ad.off + 33, none⟩ from Addr.add_succ' ad 32] at h1

theorem in_split (x y : InD) : decide (x = y) = (decide (x.id = y.id ∧ x.n = y.n) && decide (x.wit = y.wit)) := by
  rw [Bool.eq_iff_iff]
  cases x; cases y
  simp [and_assoc]

theorem inC_one (x : InD) (u : Value) (h : u.oneCell' = true) : ∀ c ∈ inC (x, u), c.oneCell' = true := by
  intro c hc
  simp only [inC, List.mem_append, List.mem_cons, List.not_mem_nil, or_false] at hc
  rcases hc with hc | rfl | rfl
  · exact bvs_one _ c hc
  · rfl
  · exact h

set_option maxRecDepth 100000 in
set_option maxHeartbeats 1000000 in
theorem tsame1_any (w : World) (x y : InD) (u v : Value) (hx : InOk x) (hy : InOk y) (hu : Rd w 1 u x.wit.length (bvs x.wit)) (hv : Rd w 1 v y.wit.length (bvs y.wit)) :
    Calls Try.prog 62 #[.agg (inC (x, u)).toArray, .agg (inC (y, v)).toArray] w fun e w' => e = .returned (.bool (decide (x = y))) ∧ Below w.heap.size w w' := by
  obtain ⟨R, hR⟩ : ∃ R, R = decide (x = y) := ⟨_, rfl⟩
  rw [← hR]
  rw [in_split] at hR
  have HX := Lib.hid (And.intro hx hy)
  have HU := Lib.hid (And.intro hu hv)
  have hl1 := inC_length (x := (x, u)) hx
  have hl2 := inC_length (x := (y, v)) hy
  obtain ⟨X, hX⟩ : ∃ X, X = inC (x, u) := ⟨_, rfl⟩
  obtain ⟨Y, hY⟩ : ∃ Y, Y = inC (y, v) := ⟨_, rfl⟩
  rw [← hX] at hl1 ⊢
  rw [← hY] at hl2 ⊢
  have HXY := Lib.hid (And.intro hX (And.intro hY (And.intro hl1 hl2)))
  have HR := Lib.hid hR
  clear hR hx hy hu hv hX hY hl1 hl2
  go_enter Try.func62, Try.ntmps62
  go_wp2_with (with_reducible refine stopAt 6 ?_)
  refine Stop.go ?_
  obtain ⟨w1, h1, k1, b1, s1⟩ := alloc_cb w 44 X
  obtain ⟨w2, h2, k2, b2, s2⟩ := alloc_cb w1 44 Y
  change wpList _ _ _ _ _ ((w.alloc (.cells X.toArray 44)).alloc (.cells Y.toArray 44))
  rw [← h1, ← h2]
  rw [s1] at s2 k2
  have BB := Lib.hid (b1.tr b2)
  have A1 : At w2 w.heap.size 0 (inC (x, u)) := by rw [← HXY.out.1]; exact At.block (k1.fresh b2)
  have A2 : At w2 (w.heap.size + 1) 0 (inC (y, v)) := by rw [← HXY.out.2.1]; exact At.block k2
  rw [inC_pt] at A1 A2
  have AA := Lib.hid (And.intro A1 A2)
  clear h1 h2 k1 k2 b1 b2 s1 s2 A1 A2
  refine wpList_load_agg rfl 41 (.tmp 5) rfl ⟨w.heap.size, 0, none⟩ rfl (ptC x) _ AA.out.1.pre.load Try.underlying41 rfl (by rw [ptC_length HX.out.1]; exact infoPt) ?_
  go_wp2_with (with_reducible refine stopAt 8 ?_)
  refine Stop.go ?_
  refine wpList_load_agg rfl 41 (.tmp 7) rfl ⟨w.heap.size + 1, 0, none⟩ rfl (ptC y) _ AA.out.2.pre.load Try.underlying41 rfl (by rw [ptC_length HX.out.2]; exact infoPt) ?_
  go_wp2_with (with_reducible refine stopAt 9 ?_)
  refine Stop.go ?_
  cases hD : decide (x.id = y.id ∧ x.n = y.n)
  · refine wpList_bin rfl .eql 41 41 (.tmp 6) (.tmp 8) rfl (.bool false) (eqGuard_agg _ _ _ _ _ _ _ (by kernel_rfl)) ((pt_eq w2 x y HX.out.1 HX.out.2).trans (by rw [hD])) ?_
    have hf : Hid (R = false) := Lib.hid (by rw [HR.out, hD]; rfl)
    clear hD
    go_wp2
    go_ret
    exact ⟨by rw [hf.out]; rfl, BB.out⟩
  · refine wpList_bin rfl .eql 41 41 (.tmp 6) (.tmp 8) rfl (.bool true) (eqGuard_agg _ _ _ _ _ _ _ (by kernel_rfl)) ((pt_eq w2 x y HX.out.1 HX.out.2).trans (by rw [hD])) ?_
    have hf : Hid (R = decide (x.wit = y.wit)) := Lib.hid (by rw [HR.out, hD, Bool.true_and])
    clear hD
    have hc1 : w2.cell? ⟨w.heap.size, 33, none⟩ = some u := by
      have := AA.out.1 33 u (by rw [List.getElem?_append_right (by rw [ptC_length HX.out.1]; exact Nat.le_refl _), ptC_length HX.out.1]; rfl)
      simpa using this
    have hc2 : w2.cell? ⟨w.heap.size + 1, 33, none⟩ = some v := by
      have := AA.out.2 33 v (by rw [List.getElem?_append_right (by rw [ptC_length HX.out.2]; exact Nat.le_refl _), ptC_length HX.out.2]; rfl)
      simpa using this
    go_wp2_with fail
    refine (equal_byte w2 u v x.wit y.wit (HU.out.1.fresh BB.out) (HU.out.2.fresh BB.out)).mono ?_
    rintro e w3 ⟨rfl, b3⟩
    replace BB := Lib.hid (BB.out.tr b3)
    rw [← hf.out]
    clear b3 hc1 hc2
    go_wp2
    go_ret
    exact ⟨rfl, BB.out⟩

end Go.Proofs.Ytkbahhnjoidhcaa
