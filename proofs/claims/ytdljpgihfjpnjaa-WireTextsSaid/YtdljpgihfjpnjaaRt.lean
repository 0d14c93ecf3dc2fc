/- Contracts of package wire's reader: hashes, blobs, the end. -/
import Derived.Test.YtdljpgihfjpnjaaRs
import Derived.Deep.RegionHeld3
import Derived.Stop.BytesEq
namespace Go.Proofs.Ytdljpgihfjpnjaa
set_option linter.unusedVariables false
set_option linter.unusedSimpArgs false
open Go.RowKit

/-- A hash of what was cut off: 32 bytes, or 32 noughts. -/
def hashOf (l : List UInt8) : List UInt8 := if l.length = 32 then l else List.replicate 32 0

theorem hashOf_length (l : List UInt8) : (hashOf l).length = 32 := by
  unfold hashOf; split <;> simp_all

theorem rcut_32 (st : Option (List UInt8)) : (rcut st 32).1.length = 32 ∨ (rcut st 32).1 = [] := by
  unfold rcut
  split
  · exact .inr rfl
  · split
    · left; simp; omega
    · exact .inr rfl

theorem hash_eq (w : World) (xs ys : List UInt8) (hx : xs.length = 32) (hy : ys.length = 32) :
    (binOp .eql 30 (.agg (bvs xs).toArray) (.agg (bvs ys).toArray)).run Try.prog w = .ok (.bool (xs == ys)) w :=
  run_eql_bytes w 30 5 32 Try.underlying30 Try.underlying5 (fun w' => run_size_of sizeU8 w') xs ys hx hy

set_option maxRecDepth 100000 in
set_option maxHeartbeats 400000 in
theorem rhash_any (w : World) (r N : Nat) (st : Option (List UInt8)) (h : IsR w r N st) :
    Calls Try.prog 33 #[.pointer (some ⟨r, 0, none⟩)] w fun e w' => e = .returned (.agg (bvs (hashOf (rcut st 32).1)).toArray) ∧ IsR w' r N (rcut st 32).2 ∧ w.grownBy w' (some r) := by
  go_enter Try.func33, Try.ntmps33
  go_wp2_with fail
  obtain ⟨w0, hw0, hz, hr0, hb0⟩ : ∃ w0, w0 = w.alloc (.cells (bvs (List.replicate 32 0)).toArray 30) ∧ BB w0 30 w.heap.size (List.replicate 32 0) ∧ IsR w0 r N st ∧ Below w.heap.size w w0 :=
    ⟨_, rfl, BB.new w _ _, h.fresh ((Below.refl _ w).alloc (Nat.le_refl _) _), (Below.refl _ w).alloc (Nat.le_refl _) _⟩
  have hrlt := h.lt
  have h0N := h.2.1
  change Code.wp _ _ _ _ (w.alloc (.cells (bvs (List.replicate 32 0)).toArray 30))
  rw [← hw0]
  clear hw0 h
  go_region_held3 (fun _ => True) (trivial) (first
    | (go_at_call 60; refine (cut_any _ r N st 32 ?_).mono ?_; exact hr0; rintro e w1 ⟨v1, rfl, h1, h2, h3⟩)
    | (refine step_copy_all (by rfl) (.tmp 3) (.tmp 5) 25 25 (by rfl) 5 Try.underlying25 sizeU8 w.heap.size 32 32 30 (List.replicate 32 0) (rcut st 32).1 v1 _ (by rfl) (by rfl) (by rfl) (BB.only (w := w0.drew) hz h3 (by omega)) h1 ?_; intro w2 hb2 ho2))
  have hcon : List.take 32 (rcut st 32).1 ++ List.drop ((rcut st 32).1.length.min 32) (List.replicate 32 0) = hashOf (rcut st 32).1 := by
    rcases rcut_32 st with e | e
    · rw [hashOf, if_pos e, e, List.take_of_length_le (by omega)]
      simp
    · rw [e]; simp [hashOf]
  rw [hcon] at hb2
  have hlen := hashOf_length (rcut st 32).1
  have hNw : N ≤ w.heap.size := h0N
  have R2 : Hid (IsR w2 r N (rcut st 32).2) := h2.only ho2 hNw
  have M2 : Hid (w.grownBy w2 (some r)) := grown_newer (grown_trans (grown_fresh (w' := w0.drew) hb0.drew) h3.grown) ho2 (Nat.le_refl _)
  clear h1 h2 h3 ho2 hz hr0 hcon
  obtain ⟨x, hx⟩ : ∃ x, x = hashOf (rcut st 32).1 := ⟨_, rfl⟩
  rw [← hx] at hb2 hlen
  have Hx := Lib.hid hx; clear hx
  go_wp2_with (with_reducible refine stopAt 7 ?_)
  refine Stop.go ?_
  refine wpList_load_agg rfl 30 (.tmp 2) rfl ⟨w.heap.size, 0, none⟩ rfl (bvs x) _ (At.block hb2).load Try.underlying30 rfl (by rw [bvs_length, hlen]; exact infoHash) ?_
  go_wp2_with (with_reducible refine stopStore 30 ?_)
  refine Stop.go ?_
  refine wpList_store_var rfl 30 (.tmp 2) (.tmp 7) rfl w.heap.size _ rfl _ (bvs x) rfl hb2 (by simp) (bvs_one _) (by rw [bvs_length, hlen]; exact infoHash) ?_
  intro w3 hb3 ho3
  have R3 : Hid (IsR w3 r N (rcut st 32).2) := R2.out.only ho3 hNw
  have M3 : Hid (w.grownBy w3 (some r)) := grown_newer M2.out ho3 (Nat.le_refl _)
  clear ho3
  go_wp2
  exact bodyPost_ret (results_cell_row rfl _ _ w.heap.size _ _ _ _ rfl hb3 Try.underlying30 rfl (by simp [hlen, infoHash])) rfl ⟨by rw [Hx.out], R3.out, M3.out⟩
/-- The blob that is read, and what is left. -/
def rblob (st : Option (List UInt8)) : List UInt8 × Option (List UInt8) :=
  let y := rnum st 4
  if 16777216 < y.1 then ([], none) else rcut y.2 (y.1 : Int)

theorem rcut_neg (st : Option (List UInt8)) : rcut st (-1) = ([], none) := by
  unfold rcut
  split
  · rfl
  · rw [if_neg (by omega)]

theorem rnum_lt (st : Option (List UInt8)) (s : Int) : (rnum st s).1 < 18446744073709551616 := by
  have h := ofLE_lt (rcut st (if okSize s = true then s else -1)).1
  have hl : (rcut st (if okSize s = true then s else -1)).1.length ≤ 8 := by
    by_cases hs : okSize s = true
    · rw [if_pos hs]
      obtain ⟨k, rfl, hk⟩ := okSize_nat hs
      unfold rcut
      split
      · simp
      · split
        · simp; omega
        · simp
    · rw [if_neg hs, rcut_neg]; simp
  have h2 : 2 ^ (8 * (rcut st (if okSize s = true then s else -1)).1.length) ≤ 2 ^ 64 := Nat.pow_le_pow_right (by decide) (by omega)
  have h3 : (2 : Nat) ^ 64 = 18446744073709551616 := rfl
  show ofLE _ < _
  omega

def BlobPost (w : World) (r N : Nat) (y : List UInt8 × Option (List UInt8)) (e : Ending) (w' : World) : Prop :=
  ∃ v', e = .returned v' ∧ Rd w' 1 v' y.1.length (bvs y.1) ∧ IsR w' r N y.2 ∧ w.grownBy w' (some r)

set_option maxRecDepth 100000 in
set_option maxHeartbeats 400000 in
theorem rblob_any' (w : World) (r N : Nat) (st : Option (List UInt8)) (h : IsR w r N st) :
    Calls Try.prog 27 #[.pointer (some ⟨r, 0, none⟩)] w (BlobPost w r N (rblob st)) := by
  have hlt := rnum_lt st 4
  have Hn := Lib.hid (rnumber_any w r N st 4 h)
  by_cases hb : 16777216 < (rnum st 4).1
  · have fin : rblob st = ([], none) := by simp [rblob, hb]
    rw [fin]; clear fin
    generalize rnum st 4 = y at *
    obtain ⟨n, st'⟩ := y
    simp only at hb hlt
    go_enter Try.func27, Try.ntmps27
    go_wp2_with fail
    refine Hn.out.mono ?_
    rintro e w1 ⟨rfl, h1, h2⟩
    go_wp2_with fail
    refine (cut_any w1 r N st' (-1) h1).mono ?_
    rw [rcut_neg]
    rintro e w2 ⟨v2, rfl, h3, h4, h5⟩
    go_wp2
    go_ret
    exact ⟨v2, rfl, h3, h4, grown_trans h2.grown h5.grown⟩
  · have fin : rblob st = rcut (rnum st 4).2 ((rnum st 4).1 : Int) := by simp [rblob, hb]
    rw [fin]; clear fin
    generalize rnum st 4 = y at *
    obtain ⟨n, st'⟩ := y
    simp only at hb hlt
    go_enter Try.func27, Try.ntmps27
    go_wp2_with fail
    refine Hn.out.mono ?_
    rintro e w1 ⟨rfl, h1, h2⟩
    go_wp2_with fail
    refine (cut_any w1 r N st' _ h1).mono ?_
    rintro e w2 ⟨v2, rfl, h3, h4, h5⟩
    go_wp2
    go_ret
    exact ⟨v2, rfl, h3, h4, grown_trans h2.grown h5.grown⟩

theorem rnum2_lt (st : Option (List UInt8)) : (rnum st 2).1 < 65536 := by
  have h := ofLE_lt (rcut st 2).1
  have hl : (rcut st 2).1.length ≤ 2 := by
    unfold rcut
    split
    · simp
    · split
      · simp; omega
      · simp
  have h2 : 2 ^ (8 * (rcut st 2).1.length) ≤ 2 ^ 16 := Nat.pow_le_pow_right (by decide) (by omega)
  have h3 : (2 : Nat) ^ 16 = 65536 := rfl
  show ofLE (rcut st (if okSize 2 = true then 2 else -1)).1 < _
  rw [if_pos (show okSize 2 = true from rfl)]
  omega

set_option maxRecDepth 100000 in
set_option maxHeartbeats 400000 in
theorem rcount_any (w : World) (r N : Nat) (st : Option (List UInt8)) (h : IsR w r N st) :
    Calls Try.prog 32 #[.pointer (some ⟨r, 0, none⟩)] w fun e w' => e = .returned (.int .i64 ((rnum st 2).1 : Int)) ∧ IsR w' r N (rnum st 2).2 ∧ Only r w w' := by
  have hlt := rnum2_lt st
  have Hn := Lib.hid (rnumber_any w r N st 2 h)
  generalize rnum st 2 = y at *
  obtain ⟨n, st'⟩ := y
  simp only at hlt ⊢
  go_enter Try.func32, Try.ntmps32
  go_wp2_with fail
  refine Hn.out.mono ?_
  rintro e w1 ⟨rfl, h1, h2⟩
  go_wp2
  go_ret
  exact ⟨rfl, h1, h2⟩

/-- How many bytes are left. -/
def rleft (st : Option (List UInt8)) : Nat := (st.getD []).length

set_option maxRecDepth 100000 in
set_option maxHeartbeats 400000 in
theorem rleft_any (w : World) (r N : Nat) (st : Option (List UInt8)) (h : IsR w r N st) :
    Calls Try.prog 29 #[.pointer (some ⟨r, 0, none⟩)] w fun e w' => e = .returned (.int .i64 (rleft st : Int)) ∧ w = w' := by
  obtain ⟨hrN, hNs, v, l, hb, hr, _, hx⟩ := h
  obtain ⟨a, c, rfl⟩ := hr.slice
  have hc0 : w.cell? ⟨r, 0, none⟩ = some (.slice a l.length c) := by simp [World.cell?, hb]
  have hc1 : w.cell? ⟨r, 1, none⟩ = some (.bool st.isNone) := by simp [World.cell?, hb]
  have hc2 : w.cell? ⟨r, 2, none⟩ = some (.bool true) := by simp [World.cell?, hb]
  clear hb hr hNs
  cases st with
  | none =>
    simp only [Option.isNone_none] at hc1
    go_enter Try.func29, Try.ntmps29
    go_wp2_with fail
    refine (there_yes w r hc2).mono ?_
    rintro e w' ⟨rfl, rfl⟩
    go_wp2
    go_ret
    exact ⟨rfl, rfl⟩
  | some l' =>
    obtain rfl := hx l' rfl
    simp only [Option.isNone_some] at hc1
    go_enter Try.func29, Try.ntmps29
    go_wp2_with fail
    refine (there_yes w r hc2).mono ?_
    rintro e w' ⟨rfl, rfl⟩
    go_wp2
    go_ret
    exact ⟨rfl, rfl⟩

/-- Was all read, and did nothing fail? -/
def rend (st : Option (List UInt8)) : Int := if st = some [] then 0 else 4

set_option maxRecDepth 100000 in
set_option maxHeartbeats 400000 in
theorem rend_any (w : World) (r N : Nat) (st : Option (List UInt8)) (h : IsR w r N st) :
    Calls Try.prog 28 #[.pointer (some ⟨r, 0, none⟩)] w fun e w' => e = .returned (.int .i64 (rend st)) ∧ w = w' := by
  obtain ⟨hrN, hNs, v, l, hb, hr, _, hx⟩ := h
  obtain ⟨a, c, rfl⟩ := hr.slice
  have hc0 : w.cell? ⟨r, 0, none⟩ = some (.slice a l.length c) := by simp [World.cell?, hb]
  have hc1 : w.cell? ⟨r, 1, none⟩ = some (.bool st.isNone) := by simp [World.cell?, hb]
  have hc2 : w.cell? ⟨r, 2, none⟩ = some (.bool true) := by simp [World.cell?, hb]
  clear hb hr hNs
  cases st with
  | none =>
    simp only [Option.isNone_none] at hc1
    go_enter Try.func28, Try.ntmps28
    go_wp2_with fail
    refine (there_yes w r hc2).mono ?_
    rintro e w' ⟨rfl, rfl⟩
    go_wp2
    go_ret
    exact ⟨rfl, rfl⟩
  | some l' =>
    obtain rfl := hx l' rfl
    simp only [Option.isNone_some] at hc1
    by_cases h0 : 0 < l.length
    · have fin : rend (some l) = 4 := by
        unfold rend; rw [if_neg (by intro e; cases e; simp at h0)]
      rw [fin]; clear fin
      go_enter Try.func28, Try.ntmps28
      go_wp2_with fail
      refine (there_yes w r hc2).mono ?_
      rintro e w' ⟨rfl, rfl⟩
      go_wp2
      go_ret
      exact ⟨rfl, rfl⟩
    · have hl : l = [] := List.eq_nil_of_length_eq_zero (by omega)
      subst hl
      go_enter Try.func28, Try.ntmps28
      go_wp2_with fail
      refine (there_yes w r hc2).mono ?_
      rintro e w' ⟨rfl, rfl⟩
      go_wp2
      go_ret
      exact ⟨rfl, rfl⟩

end Go.Proofs.Ytdljpgihfjpnjaa
