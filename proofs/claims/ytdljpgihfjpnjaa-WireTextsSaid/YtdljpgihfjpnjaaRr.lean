/- Contracts of package wire's reader. -/
import Derived.Test.YtdljpgihfjpnjaaWb
import Derived.Test.YtdljpgihfjpnjaaAgg
import Derived.ScopeJumps
import Derived.WalkMore
namespace Go.Proofs.Ytdljpgihfjpnjaa
set_option linter.unusedVariables false
set_option linter.unusedSimpArgs false
open Go.RowKit

/-- A scope with one label, jumped to from ahead of it: at a jump the walk goes on behind the label. -/
theorem wp_scope_go {P : Program} {Q : Exit → Act → World → Prop} {a : Act} {w : World} {c rest : Code} (l : Nat) (hf : findLabel c l = some rest)
    (first : c.wp P (Exit.jump l (fun a w => rest.wp P (Exit.jump l (fun _ _ => False) Q) a w) Q) a w) : (Code.scope c).wp P Q a w :=
  wp_scope_jumps l _ (fun _ _ => 0) hf first (fun a w h => Code.wp_mono (fun e a w q => by cases e <;> simp_all [Exit.jump]) h)

/-- Block r is a reader of what is left, st (none: it failed); it and its bytes lie below N. -/
def IsR (w : World) (r N : Nat) (st : Option (List UInt8)) : Prop :=
  r < N ∧ N ≤ w.heap.size ∧ ∃ v l, w.heap[r]? = some (.cells #[v, .bool st.isNone, .bool true] 50 (0, 0)) ∧ Rd w 1 v l.length (bvs l) ∧ (∀ k, v.ownBlock = some k → k < N) ∧ ∀ x, st = some x → l = x

theorem IsR.lt {w : World} {r N : Nat} {st : Option (List UInt8)} (h : IsR w r N st) : r < w.heap.size := Nat.lt_of_lt_of_le h.1 h.2.1

theorem IsR.below {w w' : World} {r N : Nat} {st : Option (List UInt8)} (h : IsR w r N st) (hb : Below N w w') : IsR w' r N st := by
  obtain ⟨hr, hN, v, l, h1, h2, h3, h4⟩ := h
  exact ⟨hr, Nat.le_trans hN hb.size, v, l, by rw [hb.block r hr]; exact h1, h2.kept (fun k _ hk => hb.block k (h3 k hk)), h3, h4⟩

theorem IsR.fresh {w w' : World} {r N : Nat} {st : Option (List UInt8)} (h : IsR w r N st) (hb : Below w.heap.size w w') : IsR w' r N st := h.below (hb.mono h.2.1)

theorem IsR.only {w w' : World} {r N g : Nat} {st : Option (List UInt8)} (h : IsR w r N st) (ho : Only g w w') (hg : N ≤ g) : IsR w' r N st := h.below (Below.only (Below.refl N w) ho hg)

theorem there_yes (w : World) (r : Nat) (hc : w.cell? ⟨r, 2, none⟩ = some (.bool true)) :
    Calls Try.prog 61 #[.pointer (some ⟨r, 0, none⟩)] w fun e w' => e = .returned (.bool true) ∧ w = w' := by
  go_enter Try.func61, Try.ntmps61
  go_wp2
  go_ret
  exact ⟨rfl, rfl⟩

theorem there_no (w : World) (r : Nat) (hc : w.cell? ⟨r, 2, none⟩ = some (.bool false)) :
    Calls Try.prog 61 #[.pointer (some ⟨r, 0, none⟩)] w fun e w' => e = .returned (.bool false) ∧ w = w' := by
  go_enter Try.func61, Try.ntmps61
  go_wp2
  go_ret
  exact ⟨rfl, rfl⟩

theorem there_nil (w : World) :
    Calls Try.prog 61 #[.pointer none] w fun e w' => e = .returned (.bool false) ∧ w = w' := by
  go_enter Try.func61, Try.ntmps61
  go_wp2
  go_ret
  exact ⟨rfl, rfl⟩

theorem cellsR (v : Value) (bad : Bool) (hv : ∀ x : Int, v ≠ .int .u8 x) : ∀ (i : Nat) (x : Int), (#[v, .bool bad, .bool true] : Array Value)[i]? ≠ some (Value.int .u8 x)
  | 0, x => by simpa using hv x
  | 1, x => by simp
  | 2, x => by simp
  | n + 3, x => by simp

/-- What is cut off, and what is left. -/
def rcut (st : Option (List UInt8)) (n : Int) : List UInt8 × Option (List UInt8) :=
  match st with
  | none => ([], none)
  | some l => if 0 ≤ n ∧ n ≤ l.length then (l.take n.toNat, some (l.drop n.toNat)) else ([], none)

def CutPost (w : World) (r N : Nat) (y : List UInt8 × Option (List UInt8)) (e : Ending) (w' : World) : Prop :=
  ∃ v', e = .returned v' ∧ Rd w' 1 v' y.1.length (bvs y.1) ∧ IsR w' r N y.2 ∧ Only r w w'

set_option maxRecDepth 100000 in
set_option maxHeartbeats 400000 in
theorem cut_bad (w : World) (r N : Nat) (n : Int) (h : IsR w r N none) :
    Calls Try.prog 60 #[.pointer (some ⟨r, 0, none⟩), .int .i64 n] w (CutPost w r N ([], none)) := by
  have h' := h
  obtain ⟨hrN, hNs, v, l, hb, hr, hun, _⟩ := h
  have hc0 : w.cell? ⟨r, 0, none⟩ = some v := by simp [World.cell?, hb]
  have hc1 : w.cell? ⟨r, 1, none⟩ = some (.bool true) := by simp [World.cell?, hb]
  have hc2 : w.cell? ⟨r, 2, none⟩ = some (.bool true) := by simp [World.cell?, hb]
  have Hb := Lib.hid hb; clear hb
  go_enter Try.func60, Try.ntmps60
  go_wp2_with fail
  refine wp_scope_go 0 rfl ?_
  go_wp2_with fail
  refine (there_yes w r hc2).mono ?_
  rintro e w' ⟨rfl, rfl⟩
  go_wp2
  refine wp_goto ?_
  refine And.intro rfl ?_
  go_wp2
  simp only [Exit.jump]
  go_ret
  exact ⟨_, rfl, Rd.nil _ _, h', ⟨rfl, rfl, rfl, rfl, fun _ _ => rfl⟩⟩

set_option maxRecDepth 100000 in
set_option maxHeartbeats 400000 in
theorem cut_out (w : World) (r N : Nat) (l : List UInt8) (n : Int) (h : IsR w r N (some l)) (hn : n < 0 ∨ (l.length : Int) < n) :
    Calls Try.prog 60 #[.pointer (some ⟨r, 0, none⟩), .int .i64 n] w (CutPost w r N ([], none)) := by
  obtain ⟨hrN, hNs, v, l', hb, hr, hun, hx⟩ := h
  have hNs' : ∀ (a : Addr) (u : Value), N ≤ (w.setCell a u).heap.size := fun a u => by simpa [World.setCell] using hNs
  have HN := Lib.hid hNs'; clear hNs'
  have Hun := Lib.hid hun; clear hun
  obtain rfl := hx l rfl
  obtain ⟨a, c, rfl⟩ := hr.slice
  have hc0 : w.cell? ⟨r, 0, none⟩ = some (.slice a l'.length c) := by simp [World.cell?, hb]
  have hc1 : w.cell? ⟨r, 1, none⟩ = some (.bool false) := by simp [World.cell?, hb]
  have hc2 : w.cell? ⟨r, 2, none⟩ = some (.bool true) := by simp [World.cell?, hb]
  have hf1 : w.frozen? ⟨r, 1, none⟩ = false := by simp [World.frozen?, hb]
  have Hb := Lib.hid hb; clear hb
  have fin : IsR (w.setCell ⟨r, 1, none⟩ (.bool true)) r N none ∧ Only r w (w.setCell ⟨r, 1, none⟩ (.bool true)) := by
    refine ⟨⟨hrN, HN.out _ _, .slice a l'.length c, l', ?_, hr.setOff Hb.out (cellsR _ _ (by simp)) rfl _, Hun.out, by simp⟩, ⟨rfl, rfl, rfl, by simp [World.setCell], fun k hk => heap_setCell_other _ _ _ _ hk⟩⟩
    rw [heap_setCell_same _ _ _ _ _ _ Hb.out]; rfl
  rcases hn with hn | hn
  · go_enter Try.func60, Try.ntmps60
    go_wp2_with fail
    refine wp_scope_go 0 rfl ?_
    go_wp2_with fail
    refine (there_yes w r hc2).mono ?_
    rintro e w' ⟨rfl, rfl⟩
    go_wp2
    refine wp_goto ?_
    refine And.intro rfl ?_
    go_wp2
    simp only [Exit.jump]
    go_ret
    exact ⟨_, rfl, Rd.nil _ _, fin⟩
  · have hd : decide (n < 0) = false := by simp; omega
    go_enter Try.func60, Try.ntmps60
    go_wp2_with fail
    refine wp_scope_go 0 rfl ?_
    go_wp2_with fail
    refine (there_yes w r hc2).mono ?_
    rintro e w' ⟨rfl, rfl⟩
    go_wp2
    refine wp_goto ?_
    refine And.intro rfl ?_
    go_wp2
    simp only [Exit.jump]
    go_ret
    exact ⟨_, rfl, Rd.nil _ _, fin⟩

set_option maxRecDepth 100000 in
set_option maxHeartbeats 400000 in
theorem cut_in (w : World) (r N : Nat) (l : List UInt8) (n : Nat) (h : IsR w r N (some l)) (hn : n ≤ l.length) :
    Calls Try.prog 60 #[.pointer (some ⟨r, 0, none⟩), .int .i64 (n : Int)] w (CutPost w r N (l.take n, some (l.drop n))) := by
  obtain ⟨hrN, hNs, v, l', hb, hr, hun, hx⟩ := h
  have hNs' : ∀ (a : Addr) (u : Value), N ≤ (w.setCell a u).heap.size := fun a u => by simpa [World.setCell] using hNs
  have HN := Lib.hid hNs'; clear hNs'
  have Hun := Lib.hid hun; clear hun
  obtain rfl := hx l rfl
  have hr0 := hr
  rcases hr.2 with ⟨rfl, h0⟩ | ⟨ad, c, rfl, hlc, hcm, hcell⟩
  · have hl : l' = [] := List.eq_nil_of_length_eq_zero h0
    subst hl
    have hn0 : n = 0 := by simpa using hn
    subst hn0
    have hc0 : w.cell? ⟨r, 0, none⟩ = some (.slice none 0 0) := by simp [World.cell?, hb]
    have hc1 : w.cell? ⟨r, 1, none⟩ = some (.bool false) := by simp [World.cell?, hb]
    have hc2 : w.cell? ⟨r, 2, none⟩ = some (.bool true) := by simp [World.cell?, hb]
    have hf0 : w.frozen? ⟨r, 0, none⟩ = false := by simp [World.frozen?, hb]
    have Hb := Lib.hid hb; clear hb hr
    go_enter Try.func60, Try.ntmps60
    go_wp2_with fail
    refine wp_scope_go 0 rfl ?_
    go_wp2_with fail
    refine (there_yes w r hc2).mono ?_
    rintro e w' ⟨rfl, rfl⟩
    go_wp2
    refine wp_label ?_
    go_wp2
    simp only [Exit.jump]
    go_ret
    refine ⟨_, rfl, Rd.nil _ _, ⟨hrN, HN.out _ _, .slice none 0 0, [], ?_, Rd.nil _ _, by simp [Value.ownBlock], by simp⟩, ⟨rfl, rfl, rfl, by simp [World.setCell], fun k hk => heap_setCell_other _ _ _ _ hk⟩⟩
    rw [heap_setCell_same _ _ _ _ _ _ Hb.out]; rfl
  · have hc0 : w.cell? ⟨r, 0, none⟩ = some (.slice (some ad) l'.length c) := by simp [World.cell?, hb]
    have hc1 : w.cell? ⟨r, 1, none⟩ = some (.bool false) := by simp [World.cell?, hb]
    have hc2 : w.cell? ⟨r, 2, none⟩ = some (.bool true) := by simp [World.cell?, hb]
    have hf0 : w.frozen? ⟨r, 0, none⟩ = false := by simp [World.frozen?, hb]
    have Hb := Lib.hid hb; clear hb
    have Hcell := Lib.hid hcell; clear hcell hr
    have Hm := Lib.hid hcm
    unfold maxLen at hcm
    go_enter Try.func60, Try.ntmps60
    go_wp2_with fail
    refine wp_scope_go 0 rfl ?_
    go_wp2_with fail
    refine (there_yes w r hc2).mono ?_
    rintro e w' ⟨rfl, rfl⟩
    by_cases hcn : c = n
    · have hd : decide ((n : Int) < 0) = false := by simp
      subst hcn
      go_wp2
      refine wp_label ?_
      go_wp2
      simp only [Exit.jump]
      go_ret
      have hl : l'.length = c := by omega
      refine ⟨_, rfl, ?_, ⟨hrN, HN.out _ _, .slice (some ad) 0 0, [], ?_, ?_, Hun.out, ?_⟩, ⟨rfl, rfl, rfl, by simp [World.setCell], fun k hk => heap_setCell_other _ _ _ _ hk⟩⟩
      · have := (hr0.take c c (by omega) (Nat.le_refl _) Hm.out).setOff Hb.out (cellsR _ _ (by simp)) (a := ⟨r, 0, none⟩) rfl (.slice (some ad) 0 0)
        simpa [hl] using this
      · rw [heap_setCell_same _ _ _ _ _ _ Hb.out]; rfl
      · refine ⟨by simp, .inr ⟨ad, 0, rfl, by simp, by simp [maxLen], fun j u hj => by simp [bvs] at hj⟩⟩
      · intro x hx
        rw [List.drop_of_length_le (by omega)] at hx
        simpa using hx
    · have hd : decide ((n : Int) < 0) = false := by simp
      go_wp2
      refine wp_label ?_
      go_wp2
      simp only [Exit.jump]
      go_ret
      refine ⟨_, rfl, ?_, ⟨hrN, HN.out _ _, .slice (some (ad.add n)) (l'.length - n) (c - n), l'.drop n, ?_, ?_, fun k hk => Hun.out k (by simpa [Value.ownBlock, Addr.add_block] using hk), by simp⟩, ⟨rfl, rfl, rfl, by simp [World.setCell], fun k hk => heap_setCell_other _ _ _ _ hk⟩⟩
      · have := (hr0.take n n hn (Nat.le_refl _) (by unfold maxLen; omega)).setOff Hb.out (cellsR _ _ (by simp)) (a := ⟨r, 0, none⟩) rfl (.slice (some (ad.add n)) (l'.length - n) (c - n))
        simpa [Nat.min_eq_left hn] using this
      · rw [heap_setCell_same _ _ _ _ _ _ Hb.out]; rfl
      · have := (hr0.drop n (c - n) hn (by omega) (by unfold maxLen; omega)).setOff Hb.out (cellsR _ _ (by simp)) (a := ⟨r, 0, none⟩) rfl (.slice (some (ad.add n)) (l'.length - n) (c - n))
        simpa using this

theorem cut_any (w : World) (r N : Nat) (st : Option (List UInt8)) (n : Int) (h : IsR w r N st) :
    Calls Try.prog 60 #[.pointer (some ⟨r, 0, none⟩), .int .i64 n] w (CutPost w r N (rcut st n)) := by
  cases st with
  | none => exact cut_bad w r N n h
  | some l =>
    by_cases hn : 0 ≤ n ∧ n ≤ l.length
    · obtain ⟨m, rfl⟩ := Int.eq_ofNat_of_zero_le hn.1
      have e : rcut (some l) (m : Int) = (l.take m, some (l.drop m)) := by simp only [rcut]; rw [if_pos hn]; rfl
      rw [e]
      exact cut_in w r N l m h (by omega)
    · have e : rcut (some l) n = ([], none) := by simp only [rcut]; rw [if_neg hn]
      rw [e]
      exact cut_out w r N l n h (by omega)

end Go.Proofs.Ytdljpgihfjpnjaa
