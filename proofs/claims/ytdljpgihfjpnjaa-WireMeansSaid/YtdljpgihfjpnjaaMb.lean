/- The parts as blobs. -/
import Derived.Test.YtdljpgihfjpnjaaMp
namespace Go.Proofs.Ytdljpgihfjpnjaa
set_option linter.unusedVariables false
set_option linter.unusedSimpArgs false
open Go.RowKit

theorem infoPart3 : (Try.prog.info? 32).map (fun i => (i.zero, i.size, i.bytes)) = some (some (.agg (partCells ⟨0, 0, 0, [], List.replicate 32 0⟩ (.slice none 0 0)).toArray), 36, 80) := by kernel_rfl

/-- The cells of a row of parts, their blobs' slices at hand. -/
def rowCells (l : List (PartD × Value)) : List Value := (l.map fun x => partCells x.1 x.2).flatten

theorem rowCells_length (l : List (PartD × Value)) (h : ∀ x ∈ l, x.1.h.length = 32) : (rowCells l).length = l.length * 36 := by
  induction l with
  | nil => rfl
  | cons x l ih =>
    have := ih (fun y hy => h y (by simp [hy]))
    simp only [rowCells, List.map_cons, List.flatten_cons, List.length_append, List.length_cons] at this ⊢
    rw [this, partCells_length _ _ (h x (by simp))]
    omega

theorem rowCells_at (l : List (PartD × Value)) (h : ∀ x ∈ l, x.1.h.length = 32) (i : Nat) (hi : i < l.length) (j : Nat) (hj : j < 36) :
    (rowCells l)[i * 36 + j]? = (partCells (l[i]'hi).1 (l[i]'hi).2)[j]? := by
  induction l generalizing i with
  | nil => simp at hi
  | cons x l ih =>
    have hx := partCells_length x.1 x.2 (h x (by simp))
    cases i with
    | zero =>
      simp only [rowCells, List.map_cons, List.flatten_cons, Nat.zero_mul, Nat.zero_add, List.getElem_cons_zero]
      rw [List.getElem?_append_left (by omega)]
    | succ i =>
      have := ih (fun y hy => h y (by simp [hy])) i (by simpa using hi)
      simp only [rowCells, List.map_cons, List.flatten_cons, List.getElem_cons_succ] at this ⊢
      rw [List.getElem?_append_right (by omega), hx, ← this]
      congr 1
      omega

/-- A row of the call's own as a slice of parts. -/
theorem Sl.of_row {w : World} {base n : Nat} {v : Value} {l : List (PartD × Value)} (hown : w.ownsRow base 32 36 v n (rowCells l)) (hn : l.length = n)
    (hh : ∀ x ∈ l, x.1.h.length = 32) (hm : ∀ x ∈ l, x.1.n < 18446744073709551616) (hr : ∀ x ∈ l, Rd w 1 x.2 x.1.b.length (bvs x.1.b)) : Sl PartAt 36 w v (l.map (·.1)) := by
  subst hn
  rcases hown.2 with ⟨rfl, h0⟩ | ⟨g, cap, cur, rfl, _, hg, hnc, hcm, hcs, ht⟩
  · have : l = [] := List.eq_nil_of_length_eq_zero h0
    subst this
    exact .inl ⟨rfl, _, _, rfl⟩
  · refine .inr ⟨g, 0, cap, by simp, by simpa using hnc, hcm, fun i x hx => ?_⟩
    have hi : i < l.length := by
      have := (List.getElem?_eq_some_iff.1 hx).1
      simpa using this
    have hxe : x = (l[i]'hi).1 := by
      simp [hi] at hx
      exact hx.symm
    subst hxe
    have hmem : l[i]'hi ∈ l := List.getElem_mem hi
    refine ⟨hm _ hmem, hh _ hmem, (l[i]'hi).2, hr _ hmem, fun j u hj => ?_⟩
    have hj36 : j < 36 := by
      rw [← partCells_length (l[i]'hi).1 (l[i]'hi).2 (hh _ hmem)]
      exact (List.getElem?_eq_some_iff.1 hj).1
    have h1 := rowCells_at l hh i hi j hj36
    rw [hj, ← ht, List.getElem?_take] at h1
    split at h1
    · simp only [World.cell?, hg, Nat.zero_add]
      simpa using h1
    · cases h1

set_option maxRecDepth 100000 in
set_option maxHeartbeats 1000000 in
theorem blobs_any (w : World) (v : Value) (l : List PartD) (hl : Sl PartAt 36 w v l) (h40 : l.length ≤ 40) :
    Calls Try.prog 34 #[v] w fun e w' => ∃ v', e = .returned v' ∧ Sl PartAt 36 w' v' (l.map blobD) ∧ Below w.heap.size w w' := by
  obtain ⟨i0, hi, hz0, hz1, hz2⟩ := info_parts infoPart3
  obtain ⟨a, c, rfl⟩ := hl.slice
  have Hl := Lib.hid hl
  clear hl
  go_enter Try.func34, Try.ntmps34
  go_wp2
  go_loopw [3, 4] (fun v3 v4 wr => ∃ (k : Nat) (m : List (PartD × Value)), k ≤ l.length ∧ v4 = .int .i64 (k : Int) ∧ m.map (·.1) = (l.take k).map blobD ∧ m.length = k ∧ (∀ x ∈ m, Rd w 1 x.2 x.1.b.length (bvs x.1.b)) ∧
      wr.ownsRow w.heap.size 32 36 v3 k (rowCells m) ∧ Below w.heap.size w wr)
    (fun _ v _ => l.length - (intOf v).toNat)
  case atStart => exact ⟨0, [], Nat.zero_le _, rfl, rfl, rfl, by simp, World.ownsRow_nil _ _ _ _, Below.refl _ _⟩
  case round =>
    obtain ⟨k, m, hk, rfl, hm, hmk, hmr, hown, hbl⟩ := hrel
    have hsz := hbl.size
    have Hbl := Lib.hid hbl; clear hbl
    have Hm := Lib.hid hm; clear hm
    have Hmk := Lib.hid hmk; clear hmk
    have Hmr := Lib.hid hmr; clear hmr
    by_cases hlt : k < l.length
    · rcases Hl.out with ⟨rfl, _⟩ | ⟨b, off, c', he, hlc, hcm, hx⟩
      · simp at hlt
      simp only [Value.slice.injEq, true_and] at he
      obtain ⟨rfl, rfl⟩ := he
      obtain ⟨h1, h2, vb, h3, h4⟩ := hx k l[k] (by simp [hlt])
      have H3 := Lib.hid h3
      have hc3 := (h4.fresh Hbl.out).cell3
      unfold maxLen at hcm
      clear h4 hx
      obtain ⟨ab, cb, hvb⟩ := h3.slice
      clear h3
      subst hvb
      go_wp2_with (at_builtin; apply Stop.mk)
      refine Stop.go ?_
      have hbx : Below w.heap.size w (wr.alloc (.cells (partCells (blobD l[k]) (.slice ab l[k].b.length cb)).toArray 32)) := Hbl.out.alloc (by omega) _
      have hr : Rd (wr.alloc (.cells (partCells (blobD l[k]) (.slice ab l[k].b.length cb)).toArray 32)) 36 (.slice (some ⟨wr.heap.size, 0, none⟩) 1 1) 1 (partCells (blobD l[k]) (.slice ab l[k].b.length cb)) :=
        ⟨by simp [partCells, blobD], .inr ⟨_, 1, rfl, Nat.le_refl _, by simp [maxLen], (At.block (heap_alloc_new wr _)).load⟩⟩
      refine wpList_append_rd _ rfl (.tmp 11) (.tmp 18) 22 rfl w.heap.size 32 i0 _ 36 80 Try.underlying22 hi hz0 hz1 hz2 (by simp [Value.cells, partCells]) (by decide) u3 k (rowCells m) rfl (hown.alloc _) _ 1 (partCells (blobD l[k]) (.slice ab l[k].b.length cb)) rfl hr (partCells_one _ _ rfl) (by unfold maxLen; omega) (by omega) (by simp; omega) ?_
      intro v' w1 hown' hgr _ _
      have H1 : Hid (Below w.heap.size w w1) := hbx.grown hgr (by simp; omega) (fun j hj => (hown.lt j hj).1)
      clear hgr hbx hr hown
      go_wp2
      go_roundw
      case rel =>
        refine ⟨k + 1, m ++ [(blobD l[k], .slice ab l[k].b.length cb)], by omega, by go_num, ?_, by simp [Hmk.out], ?_, ?_, H1.out⟩
        · rw [List.take_succ_eq_append_getElem hlt, List.map_append, List.map_append, Hm.out]; rfl
        · intro x hx
          rcases List.mem_append.1 hx with hx | hx
          · exact Hmr.out x hx
          · simp at hx; subst hx; exact H3.out
        · have : rowCells (m ++ [(blobD l[k], Value.slice ab l[k].b.length cb)]) = rowCells m ++ partCells (blobD l[k]) (.slice ab l[k].b.length cb) := by simp [rowCells]
          rw [this]; exact hown'
      case measure => simp [intOf]; omega
    · have hkl : k = l.length := by omega
      subst hkl
      go_wp2
      go_ret
      refine ⟨u3, rfl, ?_, Hbl.out⟩
      have h1 := Hm.out
      rw [List.take_of_length_le (Nat.le_refl _)] at h1
      rw [← h1]
      have hx : ∀ x ∈ m, ∃ y, x.1 = blobD y := fun x hx => by
        have : x.1 ∈ m.map (·.1) := List.mem_map_of_mem hx
        rw [h1] at this
        obtain ⟨y, _, hy⟩ := List.mem_map.1 this
        exact ⟨y, hy.symm⟩
      refine Sl.of_row hown Hmk.out ?_ ?_ ?_
      · intro x hxm
        obtain ⟨y, e⟩ := hx x hxm
        rw [e]; simp [blobD]
      · intro x hxm
        obtain ⟨y, e⟩ := hx x hxm
        rw [e]; simp [blobD]
      · exact fun x hxm => (Hmr.out x hxm).fresh Hbl.out
end Go.Proofs.Ytdljpgihfjpnjaa
