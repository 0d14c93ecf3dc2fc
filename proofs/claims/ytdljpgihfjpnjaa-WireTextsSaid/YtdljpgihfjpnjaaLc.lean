/- A writer with parts put into it. -/
import Derived.Test.YtdljpgihfjpnjaaLb
namespace Go.Proofs.Ytdljpgihfjpnjaa
set_option linter.unusedVariables false
set_option linter.unusedSimpArgs false
open Go.RowKit

def allB (l : List PartD) : List UInt8 := (l.map fun x => (partB x).1).flatten
def allOk (l : List PartD) : Bool := l.all fun x => (partB x).2
def wst (l : List PartD) : Option (List UInt8) := if allOk l = true then some (allB l) else none
def partW (st : Option (List UInt8)) (x : PartD) : Option (List UInt8) := if (partB x).2 = true then st.map (· ++ (partB x).1) else none

theorem wst_snoc (l : List PartD) (k : Nat) (h : k < l.length) : wst (l.take (k + 1)) = partW (wst (l.take k)) (l[k]'h) := by
  rw [List.take_succ_eq_append_getElem h]
  generalize l.take k = a
  generalize l[k] = x
  simp only [wst, partW, allOk, allB, List.all_append, List.all_cons, List.all_nil, Bool.and_true, List.map_append, List.map_cons, List.map_nil, List.flatten_append, List.flatten_cons, List.flatten_nil, List.append_nil, Bool.and_eq_true]
  by_cases h1 : (a.all fun x => (partB x).2) = true <;> by_cases h2 : (partB x).2 = true <;> simp [h1, h2]

/-- The parts are small enough to be gone through. -/
def Few (l : List PartD) : Prop := l.length ≤ 40 ∧ (l.map fun x => x.b.length).sum ≤ 20000

theorem sum_le (l : List PartD) (hh : ∀ x ∈ l, x.h.length = 32) : (allB l).length ≤ (l.map fun x => x.b.length).sum + 32 * l.length := by
  induction l with
  | nil => simp [allB]
  | cons x l ih =>
    have h1 := partB_len x (hh x (by simp))
    have h2 := ih (fun y hy => hh y (by simp [hy]))
    simp only [allB, List.map_cons, List.flatten_cons, List.length_append, List.sum_cons, List.length_cons] at *
    omega

theorem sum_take_le (l : List PartD) (k : Nat) : ((l.take k).map fun x => x.b.length).sum ≤ (l.map fun x => x.b.length).sum := by
  conv => rhs; rw [← List.take_append_drop k l, List.map_append, List.sum_append]
  omega

theorem wst_len (l : List PartD) (hf : Few l) (hh : ∀ x ∈ l, x.h.length = 32) (k : Nat) : lenOk (wst (l.take k)) 100000 := by
  intro xs e
  unfold wst at e
  split at e
  · cases e
    have h1 := sum_le (l.take k) (fun x hx => hh x (List.mem_of_mem_take hx))
    have h2 := sum_take_le l k
    have h3 := hf.1
    have h4 := hf.2
    have h5 : (l.take k).length ≤ l.length := List.length_take_le' _ _
    omega
  · cases e

theorem mem_le_sum (l : List PartD) (x : PartD) (h : x ∈ l) : x.b.length ≤ (l.map fun x => x.b.length).sum := by
  induction l with
  | nil => simp at h
  | cons y l ih =>
    rcases List.mem_cons.1 h with rfl | h
    · simp
    · have := ih h; simp; omega

theorem partW_1 (st : Option (List UInt8)) (x : PartD) (hk : x.kind = 1) : wput st (numB x.n x.size) = partW st x := by
  unfold partW partB numB
  simp only [hk, if_true]
  cases hs : okSize x.size <;> by_cases h2 : x.n < 2 ^ (8 * x.size.toNat) <;> cases st <;> simp [wput, hs, h2]

theorem partW_2 (st : Option (List UInt8)) (x : PartD) (hk : x.kind = 2) : wput st (some x.b) = partW st x := by
  simp [partW, partB, hk, wput_some]

theorem partW_3 (st : Option (List UInt8)) (x : PartD) (hk : x.kind = 3) (hb : x.b.length ≤ 16777216) : wput st (blobB x.b) = partW st x := by
  simp [partW, partB, hk, blobB, hb, wput_some]

theorem partW_4 (st : Option (List UInt8)) (x : PartD) (hk : x.kind = 4) : wput st (countB x.size) = partW st x := by
  unfold partW partB countB
  by_cases h : 0 ≤ x.size ∧ x.size ≤ 65535 <;> simp [hk, h, wput_some, wput_none]

theorem partW_5 (st : Option (List UInt8)) (x : PartD) (hk : x.kind = 5) : wput st (some x.h) = partW st x := by
  simp [partW, partB, hk, wput_some]

theorem partW_0 (st : Option (List UInt8)) (x : PartD) (k1 : x.kind ≠ 1) (k2 : x.kind ≠ 2) (k3 : x.kind ≠ 3) (k4 : x.kind ≠ 4) (k5 : x.kind ≠ 5) : st = partW st x := by
  cases st <;> simp [partW, partB, k1, k2, k3, k4, k5]

theorem IsW.new (w : World) : IsW (w.alloc (.cells #[.slice none 0 0, .bool false] 54)) w.heap.size w.heap.size (some []) :=
  ⟨Nat.le_refl _, .slice none 0 0, [], heap_alloc_new w _, World.ownsRow_nil _ _ _ _, by simp⟩

theorem partCells_one (x : PartD) (v : Value) (hv : v.oneCell' = true) : ∀ u ∈ partCells x v, u.oneCell' = true := by
  intro u hu
  simp only [partCells, List.cons_append, List.nil_append, List.mem_cons] at hu
  rcases hu with rfl | rfl | rfl | rfl | hu
  · rfl
  · rfl
  · rfl
  · exact hv
  · exact bvs_one _ _ hu

theorem partCells_length (x : PartD) (v : Value) (h : x.h.length = 32) : (partCells x v).length = 36 := by simp [partCells, h]

theorem hashAt {w : World} {b : Nat} {x : PartD} {v : Value} (h : At w b 0 (partCells x v)) : At w b 4 (bvs x.h) := by
  intro j u hj
  have := h (4 + j) u (by rw [Nat.add_comm]; simpa [partCells] using hj)
  simpa using this

set_option maxRecDepth 100000 in
set_option maxHeartbeats 1000000 in
theorem lput_any (w : World) (v : Value) (l : List PartD) (hl : Sl PartAt 36 w v l) (hf : Few l) :
    Calls Try.prog 14 #[v] w fun e w' => e = .returned (.pointer (some ⟨w.heap.size, 0, none⟩)) ∧ IsW w' w.heap.size w.heap.size (wst l) ∧ Below w.heap.size w w' := by
  have hh : ∀ x ∈ l, x.h.length = 32 := by
    intro x hx
    obtain ⟨i, hi, rfl⟩ := List.getElem_of_mem hx
    rcases hl with ⟨rfl, _⟩ | ⟨b, off, c', he, hlc, hcm, hxx⟩
    · simp at hi
    · exact (hxx i _ (by simp [hi])).2.1
  have Hh := Lib.hid hh; clear hh
  obtain ⟨a, c, rfl⟩ := hl.slice
  have hl40 := hf.1
  go_enter Try.func14, Try.ntmps14
  go_wp2
  go_loopw [3, 4] (fun v3 v4 wr => v3 = .pointer (some ⟨w.heap.size, 0, none⟩) ∧ ∃ k : Nat, k ≤ l.length ∧ v4 = .int .i64 (k : Int) ∧ IsW wr w.heap.size w.heap.size (wst (l.take k)) ∧ Below w.heap.size w wr)
    (fun _ v _ => l.length - (intOf v).toNat)
  case atStart => exact ⟨rfl, 0, Nat.zero_le _, rfl, IsW.new w, (Below.refl _ _).alloc (Nat.le_refl _) _⟩
  case round =>
    obtain ⟨rfl, k, hk, rfl, hw, hbl⟩ := hrel
    have hsz := hbl.size
    have Hbl := Lib.hid hbl; clear hbl
    by_cases hlt : k < l.length
    · rcases hl with ⟨rfl, _⟩ | ⟨b, off, c', he, hlc, hcm, hx⟩
      · simp at hlt
      simp only [Value.slice.injEq, true_and] at he
      obtain ⟨rfl, rfl⟩ := he
      obtain ⟨h1, h2, vb, h3, h4⟩ := hx k l[k] (by simp [hlt])
      have hxb : l[k].b.length ≤ 20000 := Nat.le_trans (mem_le_sum l _ (List.getElem_mem hlt)) hf.2
      have hlen := wst_len l hf Hh.out k
      have hsn := wst_snoc l k hlt
      obtain ⟨x, hx'⟩ : ∃ x, x = l[k] := ⟨_, rfl⟩
      have hwl : Rd wr 1 vb l[k].b.length (bvs l[k].b) ∧ At wr b (off + k * 36) (partCells l[k] vb) := ⟨h3.fresh Hbl.out, h4.fresh Hbl.out⟩
      rw [← hx'] at h1 h2 h3 h4 hxb hsn hwl
      clear hx'
      clear hx
      have hat := hwl.2
      have hrd := hwl.1
      have Hsn := Lib.hid hsn; clear hsn
      have H0 := Lib.hid h3
      clear h3 h4 hwl
      go_wp2_with (with_reducible refine stopAt 17 ?_)
      refine Stop.go ?_
      refine wpList_load_agg rfl 32 (.tmp 16) rfl ⟨b, off + k * 36, none⟩ rfl (partCells x vb) _ hat.load Try.underlying32 rfl (by rw [partCells_length x vb h2]; exact infoPart) ?_
      go_wp2_with (with_reducible refine stopStore 32 ?_)
      refine Stop.go ?_
      obtain ⟨va, vc, hvb⟩ := hrd.slice
      refine wpList_store_var rfl 32 (.tmp 5) (.tmp 17) rfl wr.heap.size _ rfl _ (partCells x vb) rfl (heap_alloc_new _ _) (by rw [partCells_length x vb h2]; rfl) (partCells_one x vb (by rw [hvb]; rfl)) (by rw [partCells_length x vb h2]; exact infoPart) ?_
      clear hvb
      intro w3 hg3 ho3
      have hb3 : Below wr.heap.size wr w3 := Below.only ((Below.refl _ wr).alloc (Nat.le_refl _) _) ho3 (Nat.le_refl _)
      have hw3 := hw.fresh hb3
      have hr3 := hrd.fresh hb3
      have H3 : Hid (Below w.heap.size w w3) := Hbl.out.trans (hb3.mono hsz)
      have hat3 := At.block hg3
      have hc0 := hat3.cell0
      have hc1 := hat3.cell1
      have hc2 := hat3.cell2
      have hc3 := hat3.cell3
      have Hat3 := Lib.hid hat3
      clear hat3 hat hrd hb3 hg3 ho3 hw
      have Hx := Lib.hid h2; clear h2
      by_cases k1 : x.kind = 1
      · have e1 : x.kind = 1 := k1
        rw [k1] at hc0
        have HK := Lib.hid k1; clear k1 e1
        go_wp2_with fail
        refine (Number_any _ w.heap.size w.heap.size _ hw3 x.n h1 x.size (fun xs e => by have := hlen xs e; omega)).mono ?_
        rintro e w4 ⟨rfl, hw4, hm4⟩
        have H4 : Hid (Below w.heap.size w w4) := H3.out.trans (hm4.below hw3)
        clear hm4
        go_wp2
        go_roundw
        case rel => exact ⟨rfl, k + 1, by omega, by go_num, by rw [Hsn.out, ← partW_1 _ _ HK.out]; exact hw4, H4.out⟩
        case measure => simp [intOf]; omega
      have q1 : (x.kind == 1) = false := by simp [k1]
      have K1 := Lib.hid k1; clear k1
      by_cases k2 : x.kind = 2
      · have e2 : x.kind = 2 := k2
        rw [k2] at hc0
        have HK := Lib.hid k2; clear k2 e2
        go_wp2_with fail
        refine (Bytes_any _ w.heap.size w.heap.size _ x.b hw3 vb hr3 (fun xs e => by have := hlen xs e; omega)).mono ?_
        rintro e w4 ⟨rfl, hw4, hm4⟩
        have H4 : Hid (Below w.heap.size w w4) := H3.out.trans (hm4.below hw3)
        clear hm4
        go_wp2
        go_roundw
        case rel => exact ⟨rfl, k + 1, by omega, by go_num, by rw [Hsn.out, ← partW_2 _ _ HK.out]; exact hw4, H4.out⟩
        case measure => simp [intOf]; omega
      have q2 : (x.kind == 2) = false := by simp [k2]
      have K2 := Lib.hid k2; clear k2
      by_cases k3 : x.kind = 3
      · have e3 : x.kind = 3 := k3
        rw [k3] at hc0
        have HK := Lib.hid k3; clear k3 e3
        go_wp2_with fail
        refine (Blob_any _ w.heap.size w.heap.size _ x.b hw3 vb hr3 (Apart.old H0.out (Nat.le_refl _) hw3) (fun xs e => by have := hlen xs e; omega)).mono ?_
        rintro e w4 ⟨rfl, hw4, hm4⟩
        have H4 : Hid (Below w.heap.size w w4) := H3.out.trans (hm4.below hw3)
        clear hm4
        go_wp2
        go_roundw
        case rel => exact ⟨rfl, k + 1, by omega, by go_num, by rw [Hsn.out, ← partW_3 _ _ HK.out (by omega)]; exact hw4, H4.out⟩
        case measure => simp [intOf]; omega
      have q3 : (x.kind == 3) = false := by simp [k3]
      have K3 := Lib.hid k3; clear k3
      by_cases k4 : x.kind = 4
      · have e4 : x.kind = 4 := k4
        rw [k4] at hc0
        have HK := Lib.hid k4; clear k4 e4
        go_wp2_with fail
        refine (Count_any _ w.heap.size w.heap.size _ hw3 x.size (fun xs e => by have := hlen xs e; omega)).mono ?_
        rintro e w4 ⟨rfl, hw4, hm4⟩
        have H4 : Hid (Below w.heap.size w w4) := H3.out.trans (hm4.below hw3)
        clear hm4
        go_wp2
        go_roundw
        case rel => exact ⟨rfl, k + 1, by omega, by go_num, by rw [Hsn.out, ← partW_4 _ _ HK.out]; exact hw4, H4.out⟩
        case measure => simp [intOf]; omega
      have q4 : (x.kind == 4) = false := by simp [k4]
      have K4 := Lib.hid k4; clear k4
      by_cases k5 : x.kind = 5
      · have e5 : x.kind = 5 := k5
        rw [k5] at hc0
        have HK := Lib.hid k5; clear k5 e5
        go_wp2_with (with_reducible refine stopAt 50 ?_)
        refine Stop.go ?_
        refine wpList_load_agg rfl 30 (.tmp 49) rfl ⟨wr.heap.size, 4, none⟩ rfl (bvs x.h) _ (hashAt Hat3.out).load Try.underlying30 rfl (by rw [bvs_length, Hx.out]; exact infoHash) ?_
        go_wp2_with fail
        refine (Hash_any _ w.heap.size w.heap.size _ hw3 x.h Hx.out (fun xs e => by have := hlen xs e; omega)).mono ?_
        rintro e w4 ⟨rfl, hw4, hm4⟩
        have H4 : Hid (Below w.heap.size w w4) := H3.out.trans (hm4.below hw3)
        clear hm4
        go_wp2
        go_roundw
        case rel => exact ⟨rfl, k + 1, by omega, by go_num, by rw [Hsn.out, ← partW_5 _ _ HK.out]; exact hw4, H4.out⟩
        case measure => simp [intOf]; omega
      have q5 : (x.kind == 5) = false := by simp [k5]
      have K5 := Lib.hid k5; clear k5
      go_wp2
      go_roundw
      case rel => exact ⟨rfl, k + 1, by omega, by go_num, by rw [Hsn.out, ← partW_0 _ _ K1.out K2.out K3.out K4.out K5.out]; exact hw3, H3.out⟩
      case measure => simp [intOf]; omega
    · have hkl : k = l.length := by omega
      subst hkl
      go_wp2
      go_ret
      exact ⟨rfl, by rw [List.take_of_length_le (Nat.le_refl _)] at hw; exact hw, Hbl.out⟩
end Go.Proofs.Ytdljpgihfjpnjaa
