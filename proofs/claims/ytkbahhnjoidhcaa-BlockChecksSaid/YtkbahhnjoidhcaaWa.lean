/- Contracts of package wire's writer. -/
import Derived.Test.YtkbahhnjoidhcaaProg
import Derived.Test.YtkbahhnjoidhcaaG2
namespace Go.Proofs.Ytkbahhnjoidhcaa
set_option linter.unusedVariables false
set_option linter.unusedSimpArgs false
open Go.RowKit




theorem clone_nil (w : World) : Calls Try.prog 59 #[.slice none 0 0] w fun e w' => e = .returned (.slice none 0 0) ∧ w = w' := by
  have e0 := @Lib.run_eql_slice_nil
  go_enter Try.func59, Try.ntmps59
  go_wp2
  go_ret
  exact ⟨rfl, rfl⟩

set_option maxRecDepth 100000 in
set_option maxHeartbeats 400000 in
theorem clone_some (w : World) (ad : Addr) (n c : Nat) (xs : List UInt8) (hx : Rd w 1 (.slice (some ad) n c) n (bvs xs)) (hn : n ≤ 1099511627776) :
    Calls Try.prog 59 #[.slice (some ad) n c] w fun e w' => ∃ v', e = .returned v' ∧ w'.ownsRow w.heap.size 5 1 v' n (bvs xs) ∧ v' ≠ .slice none 0 0 ∧ Below w.heap.size w w' := by
  obtain ⟨i0, hi, hz0, hz1, hz2⟩ := info_parts infoU8
  have e0 := @Lib.run_eql_slice_nil
  go_enter Try.func59, Try.ntmps59
  go_wp2_with (at_builtin; refine wpList_append_rd _ rfl (.tmp 5) (.tmp 6) 42 rfl w.heap.size 5 i0 (.int .u8 0) 1 1 Try.underlying42 hi hz0 hz1 hz2 rfl (by decide) _ 0 [] rfl (World.ownsRow_made (base := w.heap.size) w #[] 0 (Nat.le_refl _) (by decide) rfl) _ n (bvs xs) rfl (Rd.fresh hx ((Below.refl _ _).alloc (Nat.le_refl _) _)) (bvs_one _) (by unfold maxLen; omega) (by omega) (by simp) ?_)
  intro v' w' hown hgr hnil _
  go_wp2
  go_ret
  exact ⟨v', rfl, by simpa using hown, by simp [hnil], ((Below.refl _ _).alloc (Nat.le_refl _) _).grown hgr (by simp) (by simp [Value.ownBlock])⟩

set_option maxRecDepth 100000 in
set_option maxHeartbeats 400000 in
theorem number_any (w : World) (m : Nat) (si : Int) (h0 : 0 ≤ si) (h8 : si ≤ 8) :
    Calls Try.prog 104 #[.int .u64 (m : Int), .int .i64 si] w fun e w' =>
      e = .returned (.slice (some ⟨w.heap.size, 0, none⟩) si.toNat si.toNat) ∧ BB w' 5 w.heap.size (le m si.toNat) ∧ Below w.heap.size w w' := by
  obtain ⟨s, rfl⟩ := Int.eq_ofNat_of_zero_le h0
  simp only [Int.toNat_natCast]
  have hs : s ≤ 8 := by omega
  clear h0 h8
  obtain ⟨i0, hi, hz0, hz1, hz2⟩ := info_parts infoU8
  go_enter Try.func104, Try.ntmps104
  go_wp2_with (at_make; apply Stop.mk)
  refine Stop.go ?_
  refine wpList_make_full _ rfl _ _ 42 rfl w.heap.size 5 i0 (.int .u8 0) 1 Try.underlying42 hi hz0 hz1 _ _ _ _ s rfl rfl rfl rfl (by rw [hz2]; omega) (by unfold maxLen; omega) (Nat.le_refl _) ?_
  intro w1 hown hgr
  have hb1 : BB w1 5 w.heap.size (le m 0 ++ List.replicate (s - 0) 0) := by
    refine BB.full (base := w.heap.size) (n := s) ?_
    simpa [le, bvs, bv, Value.cells, toList_madeCells_one] using hown
  have Hb1 := Lib.hid hb1; clear hb1
  have Hbl : Hid (Below w.heap.size w w1) := Below.grown (Below.refl _ w) hgr (Nat.le_refl _) (by simp)
  clear hgr hown
  go_wp2
  go_loopw [11] (fun v wr => ∃ k : Nat, k ≤ s ∧ v = .int .i64 (k : Int) ∧ BB wr 5 w.heap.size (le m k ++ List.replicate (s - k) 0) ∧ Below w.heap.size w wr)
    (fun v _ => s - (intOf v).toNat)
  case atStart => exact ⟨0, Nat.zero_le _, rfl, Hb1.out, Hbl.out⟩
  case round =>
    obtain ⟨k, hk, rfl, hb, hbl⟩ := hrel
    have hc : k < s → wr.cell? ⟨w.heap.size, k, none⟩ = some (.int .u8 0) := fun h => by
      have := hb.cell k 0 (by rw [List.getElem?_append_right (by simp [le_length]), le_length, Nat.sub_self, List.getElem?_replicate, if_pos (by omega)])
      simpa [bv] using this
    have hf : wr.frozen? ⟨w.heap.size, k, none⟩ = false := hb.free k
    have Hb := Lib.hid hb; clear hb
    have Hbl2 := Lib.hid hbl; clear hbl
    go_wp2
    · go_roundw
      case rel =>
        refine ⟨k + 1, by omega, by go_num, ?_, ?_⟩
        · rw [← le_step m k s (by assumption)]
          have := Hb.out.set k (UInt8.ofNat (m / 2 ^ (8 * k)))
          rw [bv_ofNat] at this
          simpa using this
        · exact Hbl2.out.setCell (p := ⟨w.heap.size, k, none⟩) (Nat.le_refl _) _
      case measure => simp [intOf]; omega
    · have hks : k = s := by omega
      subst hks
      go_ret
      exact ⟨rfl, by simpa using Hb.out, Hbl2.out⟩

theorem clone_any (w : World) (v : Value) (xs : List UInt8) (hx : Rd w 1 v xs.length (bvs xs)) (hn : xs.length ≤ 1099511627776) :
    Calls Try.prog 59 #[v] w fun e w' => ∃ v', e = .returned v' ∧ w'.ownsRow w.heap.size 5 1 v' xs.length (bvs xs) ∧ (v' = .slice none 0 0 ↔ v = .slice none 0 0) ∧ Below w.heap.size w w' := by
  rcases hx.2 with ⟨rfl, h0⟩ | ⟨ad, c, rfl, _⟩
  · refine (clone_nil w).mono ?_
    rintro e w' ⟨rfl, rfl⟩
    have : xs = [] := List.eq_nil_of_length_eq_zero h0
    subst this
    exact ⟨_, rfl, World.ownsRow_nil _ _ _ _, by simp, Below.refl _ _⟩
  · refine (clone_some w ad xs.length c xs hx hn).mono ?_
    rintro e w' ⟨v', rfl, h1, h2, h3⟩
    exact ⟨v', rfl, h1, by simp [h2], h3⟩

/-- The sizes that a number may have. -/
def okSize (n : Int) : Bool := n == 1 || n == 2 || n == 4 || n == 8

set_option maxHeartbeats 400000 in
theorem whole_any (n : Int) (w : World) :
    Calls Try.prog 103 #[.int .i64 n] w fun e w' => e = .returned (.bool (okSize n)) ∧ w = w' := by
  go_enter Try.func103, Try.ntmps103
  go_wp2
  all_goals
    go_ret
    exact ⟨by simp [okSize, *], rfl⟩

/-- Block b is a writer that has put st (none: it failed); it and its row lie from B on. -/
def IsW (w : World) (B b : Nat) (st : Option (List UInt8)) : Prop :=
  B ≤ b ∧ ∃ v xs, w.heap[b]? = some (.cells #[v, .bool st.isNone] 105 (0, 0)) ∧ w.ownsRow B 5 1 v xs.length (bvs xs) ∧ ∀ l, st = some l → xs = l

theorem IsW.lt {w : World} {B b : Nat} {st : Option (List UInt8)} (h : IsW w B b st) : b < w.heap.size := by
  obtain ⟨_, v, xs, hb, _⟩ := h
  exact lt_of_block hb

theorem IsW.fresh {w w' : World} {B b : Nat} {st : Option (List UInt8)} (h : IsW w B b st) (hb : Below w.heap.size w w') : IsW w' B b st := by
  obtain ⟨hB, v, xs, h1, h2, h3⟩ := h
  refine ⟨hB, v, xs, by rw [hb.block b (lt_of_block h1)]; exact h1, ?_, h3⟩
  exact h2.kept (row := none) ⟨hb.os, hb.tape, hb.output, hb.size, fun k hk _ => hb.block k hk⟩ (by
    by_cases e : v.ownBlock = none
    · exact .inl e
    · exact .inr e)

/-- What a writer at block b may write to: its block, its row. -/
def Fp (w : World) (b k : Nat) : Prop := k = b ∨ ∃ v, w.cell? ⟨b, 0, none⟩ = some v ∧ v.ownBlock = some k

/-- From w to w' only the writer at b, its row and new blocks have turned. -/
structure MW (b : Nat) (w w' : World) : Prop where
  os : w'.os = w.os
  tape : w'.tape = w.tape
  output : w'.output = w.output
  size : w.heap.size ≤ w'.heap.size
  block : ∀ k, k < w.heap.size → ¬ Fp w b k → w'.heap[k]? = w.heap[k]?
  fp : ∀ k, Fp w' b k → Fp w b k ∨ w.heap.size ≤ k

theorem MW.trans {b : Nat} {u v w : World} (h : MW b u v) (g : MW b v w) : MW b u w := by
  refine ⟨g.os.trans h.os, g.tape.trans h.tape, g.output.trans h.output, Nat.le_trans h.size g.size, fun k hk hf => ?_, fun k hk => ?_⟩
  · rw [g.block k (Nat.lt_of_lt_of_le hk h.size) (fun e => (h.fp k e).elim hf (fun e => by omega)), h.block k hk hf]
  · rcases g.fp k hk with e | e
    · exact h.fp k e
    · exact .inr (Nat.le_trans h.size e)

theorem MW.fresh {b : Nat} {w w' : World} (hlt : b < w.heap.size) (h : Below w.heap.size w w') : MW b w w' := by
  have hc : w'.cell? ⟨b, 0, none⟩ = w.cell? ⟨b, 0, none⟩ := h.cell (p := ⟨b, 0, none⟩) hlt
  refine ⟨h.os, h.tape, h.output, h.size, fun k hk _ => h.block k hk, fun k hk => .inl ?_⟩
  unfold Fp at *
  rw [hc] at hk
  exact hk

theorem IsW.fp {w : World} {B b : Nat} {st : Option (List UInt8)} (h : IsW w B b st) {k : Nat} (hk : Fp w b k) : B ≤ k := by
  obtain ⟨hB, v, xs, h1, h2, _⟩ := h
  rcases hk with rfl | ⟨v', hv', hk⟩
  · exact hB
  · have : w.cell? ⟨b, 0, none⟩ = some v := by simp [World.cell?, h1]
    rw [this] at hv'
    cases hv'
    exact (h2.lt k hk).1

theorem MW.below {w w' : World} {B b : Nat} {st : Option (List UInt8)} (h : MW b w w') (hw : IsW w B b st) : Below B w w' :=
  ⟨h.os, h.tape, h.output, h.size, fun k hk => h.block k (Nat.lt_of_lt_of_le hk (Nat.le_trans hw.1 (Nat.le_of_lt hw.lt))) (fun e => by have := hw.fp e; omega)⟩

/-- What reads here reads there, if it lies apart from the writer. -/
def Apart (w : World) (b : Nat) (v : Value) (n : Nat) : Prop := n ≠ 0 → ∀ k, v.ownBlock = some k → ¬ Fp w b k

theorem Rd.mw {w w' : World} {b n : Nat} {v : Value} {cs : List Value} (h : Rd w 1 v n cs) (hd : Apart w b v n) (hm : MW b w w') : Rd w' 1 v n cs := by
  by_cases hn : n = 0
  · subst hn
    refine ⟨h.1, ?_⟩
    have hl : cs = [] := List.eq_nil_of_length_eq_zero (by simpa using h.1)
    subst hl
    rcases h.2 with h2 | ⟨ad, c, hv, hn, hc, _⟩
    · exact .inl h2
    · exact .inr ⟨ad, c, hv, hn, hc, fun j u hj => by simp at hj⟩
  · exact h.kept fun k hk hv => hm.block k hk (hd hn k hv)

theorem Apart.mw {w w' : World} {b n : Nat} {v : Value} {cs : List Value} (h : Rd w 1 v n cs) (hd : Apart w b v n) (hm : MW b w w') : Apart w' b v n := by
  intro hn k hk hf
  rcases hm.fp k hf with e | e
  · exact hd hn k hk e
  · rcases h.2 with ⟨rfl, _⟩ | ⟨ad, c, hv, _, _, hcell⟩
    · simp [Value.ownBlock] at hk
    · subst hv
      simp only [Value.ownBlock, Option.some.injEq] at hk
      have h0 := hcell 0 (cs[0]'(by rw [h.1]; omega)) (by simp)
      have hlt := block_lt_of_cell h0
      rw [Addr.add_block] at hlt
      omega

/-- What read before the writer was made lies apart from it. -/
theorem Apart.old {w0 w : World} {B b n : Nat} {st : Option (List UInt8)} {v : Value} {cs : List Value} (h : Rd w0 1 v n cs) (hB : w0.heap.size ≤ B) (hw : IsW w B b st) : Apart w b v n := by
  intro hn k hk hf
  have h1 := hw.fp hf
  rcases h.2 with ⟨rfl, _⟩ | ⟨ad, c, hv, _, _, hcell⟩
  · simp [Value.ownBlock] at hk
  · subst hv
    simp only [Value.ownBlock, Option.some.injEq] at hk
    have h0 := hcell 0 (cs[0]'(by rw [h.1]; omega)) (by simp)
    have hlt := block_lt_of_cell h0
    rw [Addr.add_block] at hlt
    omega

theorem IsW.fpLt {w : World} {B b : Nat} {st : Option (List UInt8)} (h : IsW w B b st) {k : Nat} (hk : Fp w b k) : k < w.heap.size := by
  obtain ⟨hB, v, xs, h1, h2, _⟩ := h
  rcases hk with rfl | ⟨v', hv', hk⟩
  · exact lt_of_block h1
  · have : w.cell? ⟨b, 0, none⟩ = some v := by simp [World.cell?, h1]
    rw [this] at hv'
    cases hv'
    exact (h2.lt k hk).2

/-- What was made behind the writer lies apart from it. -/
theorem Apart.new {w w' : World} {B b n : Nat} {st : Option (List UInt8)} {v : Value} (hw : IsW w B b st) (hb : Below w.heap.size w w') (hv : ∀ k, v.ownBlock = some k → w.heap.size ≤ k) : Apart w' b v n := by
  intro _ k hk hf
  have h1 := hv k hk
  have hc : w'.cell? ⟨b, 0, none⟩ = w.cell? ⟨b, 0, none⟩ := hb.cell (p := ⟨b, 0, none⟩) hw.lt
  have hf' : Fp w b k := by
    unfold Fp at *
    rw [hc] at hf
    exact hf
  have := hw.fpLt hf'
  omega

theorem Apart.under {w : World} {B b n : Nat} {st : Option (List UInt8)} {v : Value} (hw : IsW w B b st) (hu : Under B v) : Apart w b v n :=
  fun _ k hk hf => by have := hu k hk; have := hw.fp hf; omega

theorem cellsW (v : Value) (bad : Bool) (hv : ∀ x : Int, v ≠ .int .u8 x) : ∀ (i : Nat) (x : Int), (#[v, .bool bad] : Array Value)[i]? ≠ some (Value.int .u8 x)
  | 0, x => by simpa using hv x
  | 1, x => by simp
  | n + 2, x => by simp

set_option maxRecDepth 100000 in
set_option maxHeartbeats 400000 in
theorem put_no (w : World) (B b : Nat) (st : Option (List UInt8)) (h : IsW w B b st) (v2 : Value) (good : Bool) (hg : (st.isNone || !good) = true) :
    Calls Try.prog 95 #[.pointer (some ⟨b, 0, none⟩), v2, .bool good] w fun e w' => e = .returned (.pointer (some ⟨b, 0, none⟩)) ∧ IsW w' B b none ∧ MW b w w' := by
  obtain ⟨hB, v, xs, hb, hown, _⟩ := h
  have hne := own_ne hown hb (by decide)
  have hc1 : w.cell? ⟨b, 1, none⟩ = some (.bool st.isNone) := by simp [World.cell?, hb]
  have hf1 : w.frozen? ⟨b, 1, none⟩ = false := by simp [World.frozen?, hb]
  have Hb := Lib.hid hb; clear hb
  have Hg := Lib.hid hg; clear hg
  generalize st.isNone = bad at *
  have fin : IsW (w.setCell ⟨b, 1, none⟩ (.bool true)) B b none ∧ MW b w (w.setCell ⟨b, 1, none⟩ (.bool true)) := by
    have hb' : (w.setCell ⟨b, 1, none⟩ (.bool true)).heap[b]? = some (.cells #[v, .bool true] 105 (0, 0)) := by
      rw [heap_setCell_same _ _ _ _ _ _ Hb.out]; rfl
    refine ⟨⟨hB, v, xs, hb', ownsRow_setCell_other hown hne _, by simp⟩, ⟨rfl, rfl, rfl, by simp [World.setCell], fun k _ hf => heap_setCell_other _ _ _ _ (fun e => hf (.inl e)), fun k hk => .inl ?_⟩⟩
    unfold Fp at *
    rw [show (w.setCell ⟨b, 1, none⟩ (.bool true)).cell? ⟨b, 0, none⟩ = w.cell? ⟨b, 0, none⟩ by simp only [World.cell?, hb', Hb.out]; rfl] at hk
    exact hk
  clear hown hne
  cases bad
  · cases good
    · go_enter Try.func95, Try.ntmps95
      go_wp2
      go_ret
      exact ⟨rfl, fin⟩
    · simp [Hid] at Hg
  · go_enter Try.func95, Try.ntmps95
    go_wp2
    go_ret
    exact ⟨rfl, fin⟩

set_option maxRecDepth 100000 in
set_option maxHeartbeats 400000 in
theorem put_some (w : World) (B b : Nat) (xs ys : List UInt8) (h : IsW w B b (some xs)) (v2 : Value) (hr : Rd w 1 v2 ys.length (bvs ys)) (hn : xs.length + ys.length ≤ 1099511627776) :
    Calls Try.prog 95 #[.pointer (some ⟨b, 0, none⟩), v2, .bool true] w fun e w' => e = .returned (.pointer (some ⟨b, 0, none⟩)) ∧ IsW w' B b (some (xs ++ ys)) ∧ MW b w w' := by
  obtain ⟨i0, hi, hz0, hz1, hz2⟩ := info_parts infoU8
  obtain ⟨hB, v, xs', hb, hown, hx⟩ := h
  obtain rfl := hx xs rfl
  have hne := own_ne hown hb (by decide)
  have hbs : b < w.heap.size := lt_of_block hb
  obtain ⟨va, vc, hv⟩ := own_slice hown
  have hr2 : Rd (w.setCell ⟨b, 1, none⟩ (.bool false)) 1 v2 ys.length (bvs ys) := hr.setOff hb (cellsW _ _ (by simp [hv])) rfl _
  clear hv
  have hc0 : w.cell? ⟨b, 0, none⟩ = some v := by simp [World.cell?, hb]
  have hc1 : w.cell? ⟨b, 1, none⟩ = some (.bool false) := by simp [World.cell?, hb]
  have hf0 : w.frozen? ⟨b, 0, none⟩ = false := by simp [World.frozen?, hb]
  have hf1 : w.frozen? ⟨b, 1, none⟩ = false := by simp [World.frozen?, hb]
  have Hb := Lib.hid hb; clear hb
  go_enter Try.func95, Try.ntmps95
  go_wp2_with (at_builtin; apply Stop.mk)
  refine Stop.go ?_
  refine wpList_append_rd _ rfl (.tmp 29) (.tmp 30) 42 rfl B 5 i0 (.int .u8 0) 1 1 Try.underlying42 hi hz0 hz1 hz2 rfl (by decide) v xs'.length (bvs xs') rfl (ownsRow_setCell_other hown hne _) v2 ys.length (bvs ys) rfl hr2 (bvs_one _) (by unfold maxLen; omega) (by omega) (by simp; omega) ?_
  intro v' w1 hown' hgr _ hgw
  have hb1 : w1.heap[b]? = some (.cells #[v, .bool false] 105 (0, 0)) := by
    rw [hgr.block b (by simpa using hbs) (fun e => hne e.symm), heap_setCell_same _ _ _ _ _ _ Hb.out]; rfl
  have hne' := own_ne hown' hb1 (by decide)
  have hc0 : w1.cell? ⟨b, 0, none⟩ = some v := by simp [World.cell?, hb1]
  have hf0 : w1.frozen? ⟨b, 0, none⟩ = false := by simp [World.frozen?, hb1]
  have Hb1 := Lib.hid hb1; clear hb1
  have Hgr := Lib.hid hgr; clear hgr
  have Hgw := Lib.hid hgw; clear hgw
  obtain ⟨a', c', rfl⟩ := own_slice hown'
  go_wp2
  go_ret
  have hcv : w.cell? ⟨b, 0, none⟩ = some v := by simp only [World.cell?, Hb.out]; rfl
  have hb2 : (w1.setCell ⟨b, 0, none⟩ (.slice a' (xs'.length + ys.length) c')).heap[b]? = some (.cells #[.slice a' (xs'.length + ys.length) c', .bool false] 105 (0, 0)) := by
    rw [heap_setCell_same _ _ _ _ _ _ Hb1.out]; rfl
  have hg := Hgr.out
  refine ⟨rfl, ⟨hB, .slice a' (xs'.length + ys.length) c', xs' ++ ys, hb2, by simpa using ownsRow_setCell_other hown' hne' _, by simp⟩, ?_⟩
  refine ⟨hg.os, hg.tape, hg.output, Nat.le_trans (by simp [World.setCell]) (Nat.le_trans hg.size (by simp [World.setCell])), fun k hk hf => ?_, fun k hk => ?_⟩
  · have hkb : k ≠ b := fun e => hf (.inl e)
    rw [heap_setCell_other _ _ _ _ hkb, hg.block k (by simpa [World.setCell] using hk) (fun e => hf (.inr ⟨v, hcv, e.symm⟩)), heap_setCell_other _ _ _ _ hkb]
  · rcases hk with rfl | ⟨v', hv', hk⟩
    · exact .inl (.inl rfl)
    · have e1 : v' = .slice a' (xs'.length + ys.length) c' := by
        simp only [World.cell?, hb2] at hv'
        simpa using hv'.symm
      subst e1
      by_cases hks : k < w.heap.size
      · left
        rcases Hgw.out k hk with e2 | e2
        · exact .inr ⟨v, hcv, e2⟩
        · simp [World.setCell] at e2; omega
      · exact .inr (by omega)

theorem put_any (w : World) (B b : Nat) (st : Option (List UInt8)) (ys : List UInt8) (h : IsW w B b st) (v2 : Value) (hr : Rd w 1 v2 ys.length (bvs ys)) (hn : ∀ xs, st = some xs → xs.length + ys.length ≤ 1099511627776) :
    Calls Try.prog 95 #[.pointer (some ⟨b, 0, none⟩), v2, .bool true] w fun e w' => e = .returned (.pointer (some ⟨b, 0, none⟩)) ∧ IsW w' B b (st.map (· ++ ys)) ∧ MW b w w' := by
  cases st with
  | none => exact put_no w B b none h v2 true rfl
  | some xs => exact put_some w B b xs ys h v2 hr (hn xs rfl)

end Go.Proofs.Ytkbahhnjoidhcaa
