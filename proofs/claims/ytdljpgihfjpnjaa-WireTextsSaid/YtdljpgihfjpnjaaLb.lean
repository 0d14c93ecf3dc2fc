/- The bytes of a part, by the reference. -/
import Derived.Test.YtdljpgihfjpnjaaLa
namespace Go.Proofs.Ytdljpgihfjpnjaa
set_option linter.unusedVariables false
set_option linter.unusedSimpArgs false
open Go.RowKit

/-- A part's bytes by the document, and whether it can be put. -/
def partB (x : PartD) : List UInt8 × Bool :=
  if x.kind = 1 then (if okSize x.size = true then (le x.n x.size.toNat, decide (x.n < 2 ^ (8 * x.size.toNat))) else ([], false))
  else if x.kind = 2 then (x.b, true)
  else if x.kind = 3 then (le x.b.length 4 ++ x.b, true)
  else if x.kind = 4 then (if 0 ≤ x.size ∧ x.size ≤ 65535 then (le x.size.toNat 2, true) else ([], false))
  else if x.kind = 5 then (x.h, true)
  else ([], true)

theorem partB_len (x : PartD) (h : x.h.length = 32) : (partB x).1.length ≤ x.b.length + 32 := by
  unfold partB
  split
  · split
    · rename_i hs
      obtain ⟨k, e, hk⟩ := okSize_nat hs
      simp [e]; omega
    · simp
  · split
    · simp
    · split
      · simp; omega
      · split
        · split <;> simp
        · split
          · simp [h]
          · simp

def BytesPost (w : World) (y : List UInt8 × Bool) (e : Ending) (w' : World) : Prop :=
  ∃ v', e = .returned (.tuple #[v', .bool y.2]) ∧ Rd w' 1 v' y.1.length (bvs y.1) ∧ Below w.heap.size w w'

theorem box_cells (w : World) (x : PartD) (v : Value) (t : TypeId) :
    (w.alloc (.cells (partCells x v).toArray t)).cell? ⟨w.heap.size, 0, none⟩ = some (.int .i64 x.kind) ∧
    (w.alloc (.cells (partCells x v).toArray t)).cell? ⟨w.heap.size, 1, none⟩ = some (.int .i64 x.size) ∧
    (w.alloc (.cells (partCells x v).toArray t)).cell? ⟨w.heap.size, 2, none⟩ = some (.int .u64 (x.n : Int)) ∧
    (w.alloc (.cells (partCells x v).toArray t)).cell? ⟨w.heap.size, 3, none⟩ = some v := by
  have h : At (w.alloc (.cells (partCells x v).toArray t)) w.heap.size 0 (partCells x v) := At.block (heap_alloc_new w _)
  exact ⟨h.cell0, h.cell1, h.cell2, h.cell3⟩

set_option maxRecDepth 100000 in
set_option maxHeartbeats 400000 in
theorem bytes_1 (w : World) (x : PartD) (v : Value) (hr : Rd w 1 v x.b.length (bvs x.b)) (hn : x.n < 18446744073709551616) (hh : x.h.length = 32) (hb : x.b.length ≤ 1099511627776) (hk : x.kind = 1) :
    Calls Try.prog 13 #[.agg (partCells x v).toArray] w (BytesPost w (partB x)) := by
  obtain ⟨h0, h1, h2, h3⟩ := box_cells w x v 32
  have hbl : Hid (Below w.heap.size w (w.alloc (.cells (partCells x v).toArray 32))) := (Below.refl _ w).alloc (Nat.le_refl _) _
  have hnew : Hid ((w.alloc (.cells (partCells x v).toArray 32)).heap[w.heap.size]? = some (.cells (partCells x v).toArray 32 (0, 0))) := heap_alloc_new w _
  rw [hk] at h0
  have Hk := Lib.hid hk; clear hk
  cases hs : okSize x.size with
  | false =>
    have fin : partB x = ([], false) := by simp [partB, Hk.out, hs]
    go_enter Try.func13, Try.ntmps13
    go_wp2_with fail
    refine (rput_no _ _ _ hs).mono ?_
    rintro e w' ⟨rfl, rfl⟩
    clear hs
    go_wp2
    go_ret2
    rw [fin]
    exact ⟨.slice none 0 0, rfl, Rd.nil _ _, hbl.out⟩
  | true =>
    have fin : partB x = (le x.n x.size.toNat, decide (x.n < 2 ^ (8 * x.size.toNat))) := by simp [partB, Hk.out, hs]
    go_enter Try.func13, Try.ntmps13
    go_wp2_with fail
    refine (rput_yes _ _ hn _ hs).mono ?_
    rintro e w' ⟨v', rfl, h4, h5⟩
    clear hs
    have H5 := Lib.hid h5; clear h5
    have H4 := Lib.hid h4; clear h4
    go_wp2
    go_ret2
    rw [fin]
    exact ⟨v', rfl, by simpa using Rd.of_own H4.out, hbl.out.trans (H5.out.mono (by simp))⟩

set_option maxRecDepth 100000 in
set_option maxHeartbeats 400000 in
theorem bytes_2 (w : World) (x : PartD) (v : Value) (hr : Rd w 1 v x.b.length (bvs x.b)) (hn : x.n < 18446744073709551616) (hh : x.h.length = 32) (hb : x.b.length ≤ 1099511627776) (hk : x.kind = 2) :
    Calls Try.prog 13 #[.agg (partCells x v).toArray] w (BytesPost w (partB x)) := by
  obtain ⟨h0, h1, h2, h3⟩ := box_cells w x v 32
  have hbl : Hid (Below w.heap.size w (w.alloc (.cells (partCells x v).toArray 32))) := (Below.refl _ w).alloc (Nat.le_refl _) _
  have hnew : Hid ((w.alloc (.cells (partCells x v).toArray 32)).heap[w.heap.size]? = some (.cells (partCells x v).toArray 32 (0, 0))) := heap_alloc_new w _
  rw [hk] at h0
  have Hk := Lib.hid hk; clear hk
  have fin : partB x = (x.b, true) := by simp [partB, Hk.out]
  go_enter Try.func13, Try.ntmps13
  go_wp2
  go_ret2
  rw [fin]
  exact ⟨v, rfl, hr.fresh hbl.out, hbl.out⟩

set_option maxRecDepth 100000 in
set_option maxHeartbeats 400000 in
theorem bytes_3 (w : World) (x : PartD) (v : Value) (hr : Rd w 1 v x.b.length (bvs x.b)) (hn : x.n < 18446744073709551616) (hh : x.h.length = 32) (hb : x.b.length ≤ 1099511627776) (hk : x.kind = 3) :
    Calls Try.prog 13 #[.agg (partCells x v).toArray] w (BytesPost w (partB x)) := by
  obtain ⟨h0, h1, h2, h3⟩ := box_cells w x v 32
  have hbl : Hid (Below w.heap.size w (w.alloc (.cells (partCells x v).toArray 32))) := (Below.refl _ w).alloc (Nat.le_refl _) _
  have hnew : Hid ((w.alloc (.cells (partCells x v).toArray 32)).heap[w.heap.size]? = some (.cells (partCells x v).toArray 32 (0, 0))) := heap_alloc_new w _
  rw [hk] at h0
  have Hk := Lib.hid hk; clear hk
  have fin : partB x = (le x.b.length 4 ++ x.b, true) := by simp [partB, Hk.out]
  go_enter Try.func13, Try.ntmps13
  go_wp2_with fail
  refine (rblob_any _ v x.b (hr.fresh hbl.out) hb).mono ?_
  rintro e w' ⟨v', rfl, h4, h5⟩
  have H5 := Lib.hid h5; clear h5
  have H4 := Lib.hid h4; clear h4
  go_wp2
  go_ret2
  rw [fin]
  exact ⟨v', rfl, by have := Rd.of_own H4.out; simpa using this, hbl.out.trans (H5.out.mono (by simp))⟩

set_option maxRecDepth 100000 in
set_option maxHeartbeats 400000 in
theorem bytes_4 (w : World) (x : PartD) (v : Value) (hr : Rd w 1 v x.b.length (bvs x.b)) (hn : x.n < 18446744073709551616) (hh : x.h.length = 32) (hb : x.b.length ≤ 1099511627776) (hk : x.kind = 4) :
    Calls Try.prog 13 #[.agg (partCells x v).toArray] w (BytesPost w (partB x)) := by
  obtain ⟨h0, h1, h2, h3⟩ := box_cells w x v 32
  have hbl : Hid (Below w.heap.size w (w.alloc (.cells (partCells x v).toArray 32))) := (Below.refl _ w).alloc (Nat.le_refl _) _
  have hnew : Hid ((w.alloc (.cells (partCells x v).toArray 32)).heap[w.heap.size]? = some (.cells (partCells x v).toArray 32 (0, 0))) := heap_alloc_new w _
  rw [hk] at h0
  have Hk := Lib.hid hk; clear hk
  by_cases hc : 0 ≤ x.size ∧ x.size ≤ 65535
  · have fin : partB x = (le x.size.toNat 2, true) := by simp [partB, Hk.out, hc]
    obtain ⟨m, hm⟩ := Int.eq_ofNat_of_zero_le hc.1
    have hm2 : m ≤ 65535 := by omega
    rw [hm] at h1
    rw [hm, Int.toNat_natCast] at fin
    have hd0 : decide ((m : Int) < 0) = false := by simp
    have hd1 : decide ((65535 : Int) < (m : Int)) = false := by simp; omega
    clear hc hm
    go_enter Try.func13, Try.ntmps13
    go_wp2_with fail
    refine (rput_yes _ m (by omega) 2 rfl).mono ?_
    rintro e w' ⟨v', rfl, h4, h5⟩
    have H5 := Lib.hid h5; clear h5
    have H4 := Lib.hid h4; clear h4
    go_wp2
    go_ret2
    rw [fin]
    refine ⟨v', ?_, by have := Rd.of_own H4.out; simpa using this, hbl.out.trans (H5.out.mono (by simp))⟩
    simp; omega
  · have fin : partB x = ([], false) := by simp [partB, Hk.out, hc]
    have hor : x.size < 0 ∨ 65535 < x.size := by omega
    clear hc
    rcases hor with hor | hor
    · go_enter Try.func13, Try.ntmps13
      go_wp2
      go_ret2
      rw [fin]
      exact ⟨.slice none 0 0, rfl, Rd.nil _ _, hbl.out⟩
    · have hd : decide (x.size < 0) = false := by simp; omega
      go_enter Try.func13, Try.ntmps13
      go_wp2
      go_ret2
      rw [fin]
      exact ⟨.slice none 0 0, rfl, Rd.nil _ _, hbl.out⟩

set_option maxRecDepth 100000 in
set_option maxHeartbeats 400000 in
theorem bytes_5 (w : World) (x : PartD) (v : Value) (hr : Rd w 1 v x.b.length (bvs x.b)) (hn : x.n < 18446744073709551616) (hh : x.h.length = 32) (hb : x.b.length ≤ 1099511627776) (hk : x.kind = 5) :
    Calls Try.prog 13 #[.agg (partCells x v).toArray] w (BytesPost w (partB x)) := by
  obtain ⟨h0, h1, h2, h3⟩ := box_cells w x v 32
  have hbl : Hid (Below w.heap.size w (w.alloc (.cells (partCells x v).toArray 32))) := (Below.refl _ w).alloc (Nat.le_refl _) _
  have hnew : Hid ((w.alloc (.cells (partCells x v).toArray 32)).heap[w.heap.size]? = some (.cells (partCells x v).toArray 32 (0, 0))) := heap_alloc_new w _
  rw [hk] at h0
  have Hk := Lib.hid hk; clear hk
  have fin : partB x = (x.h, true) := by simp [partB, Hk.out]
  go_enter Try.func13, Try.ntmps13
  go_wp2
  go_ret2
  rw [fin]
  refine ⟨.slice (some ⟨w.heap.size, 4, none⟩) 32 32, rfl, ?_, hbl.out⟩
  refine ⟨by simp, .inr ⟨_, 32, by rw [hh], by show x.h.length ≤ 32; omega, by simp [maxLen], fun j u hj => ?_⟩⟩
  rw [add_at]
  have := At.block hnew.out (4 + j) u (by rw [Nat.add_comm]; simpa [partCells] using hj)
  simpa using this

set_option maxRecDepth 100000 in
set_option maxHeartbeats 400000 in
theorem bytes_0 (w : World) (x : PartD) (v : Value) (hr : Rd w 1 v x.b.length (bvs x.b)) (hn : x.n < 18446744073709551616) (hh : x.h.length = 32) (hb : x.b.length ≤ 1099511627776) (hk : x.kind ≠ 1 ∧ x.kind ≠ 2 ∧ x.kind ≠ 3 ∧ x.kind ≠ 4 ∧ x.kind ≠ 5) :
    Calls Try.prog 13 #[.agg (partCells x v).toArray] w (BytesPost w (partB x)) := by
  obtain ⟨h0, h1, h2, h3⟩ := box_cells w x v 32
  have hbl : Hid (Below w.heap.size w (w.alloc (.cells (partCells x v).toArray 32))) := (Below.refl _ w).alloc (Nat.le_refl _) _
  have hnew : Hid ((w.alloc (.cells (partCells x v).toArray 32)).heap[w.heap.size]? = some (.cells (partCells x v).toArray 32 (0, 0))) := heap_alloc_new w _
  obtain ⟨k1, k2, k3, k4, k5⟩ := hk
  have fin : partB x = ([], true) := by simp [partB, k1, k2, k3, k4, k5]
  have e1 : (x.kind == 1) = false := by simp [k1]
  have e2 : (x.kind == 2) = false := by simp [k2]
  have e3 : (x.kind == 3) = false := by simp [k3]
  have e4 : (x.kind == 4) = false := by simp [k4]
  have e5 : (x.kind == 5) = false := by simp [k5]
  clear k1 k2 k3 k4 k5
  go_enter Try.func13, Try.ntmps13
  go_wp2
  go_ret2
  rw [fin]
  exact ⟨.slice none 0 0, rfl, Rd.nil _ _, hbl.out⟩

theorem bytes_any (w : World) (x : PartD) (v : Value) (hr : Rd w 1 v x.b.length (bvs x.b)) (hn : x.n < 18446744073709551616) (hh : x.h.length = 32) (hb : x.b.length ≤ 1099511627776) :
    Calls Try.prog 13 #[.agg (partCells x v).toArray] w (BytesPost w (partB x)) := by
  by_cases h1 : x.kind = 1
  · exact bytes_1 w x v hr hn hh hb h1
  by_cases h2 : x.kind = 2
  · exact bytes_2 w x v hr hn hh hb h2
  by_cases h3 : x.kind = 3
  · exact bytes_3 w x v hr hn hh hb h3
  by_cases h4 : x.kind = 4
  · exact bytes_4 w x v hr hn hh hb h4
  by_cases h5 : x.kind = 5
  · exact bytes_5 w x v hr hn hh hb h5
  exact bytes_0 w x v hr hn hh hb ⟨h1, h2, h3, h4, h5⟩

end Go.Proofs.Ytdljpgihfjpnjaa
