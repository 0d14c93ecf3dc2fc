/- Disks: two disks apart; bytes that are the caller's: laws for the law's walk. -/
import Derived.Test.YtbbbgpdhdlknjaaDv
namespace Go.Proofs.Ytbbbgpdhdlknjaa
set_option linter.unusedVariables false
set_option linter.unusedSimpArgs false
open Go.RowKit Go.Lib

theorem DkAt.map {I J : Inhabited (Option Nat)} {w : World} {D S : Nat} {wv : Value} {k : Dk} (h : @DkAt I w D S wv k) (f : ∀ v b, @RdU I w v b → @RdU J w v b) : @DkAt J w D S wv k := by
  obtain ⟨vs, ns, css, a, b, c, d, e, g, i⟩ := h
  refine ⟨vs, ns, css, a, b, ⟨c.1, c.2.1, fun j v b hv hb => f _ _ (c.2.2 j v b hv hb)⟩, ⟨d.1, d.2.1, fun j v b hv hb => f _ _ (d.2.2 j v b hv hb)⟩, e, g, fun j x cs hx hcs => ?_⟩
  have := i j x cs hx hcs
  cases x with
  | put q b =>
    obtain ⟨hi, g1, g2, v, hc, c1, c2, hr⟩ := this
    exact ⟨hi, g1, g2, v, hc, c1, c2, f _ _ hr⟩
  | cut q n => exact this

/-- A new block is named. -/
theorem DkAt.name {w : World} {D S : Nat} {wv : Value} {k : Dk} (h : @DkAt instInhabitedOption w D S wv k) (x : Option Nat) (hx : ∀ g, x = some g → w.heap.size ≤ g) : @DkAt ⟨x⟩ w D S wv k := by
  refine h.map fun v b hr => ⟨hr.1, fun g hg => ⟨(hr.2 g hg).1, fun e => ?_⟩⟩
  have h1 := hx g e
  have h2 := (hr.2 g hg).1.lt
  omega

theorem DkAt.unname {I : Inhabited (Option Nat)} {w : World} {D S : Nat} {wv : Value} {k : Dk} (h : @DkAt I w D S wv k) : @DkAt instInhabitedOption w D S wv k :=
  h.map fun v b hr => ⟨hr.1, fun g hg => ⟨(hr.2 g hg).1, fun e => nomatch (show (none : Option Nat) = some g from e)⟩⟩

/-- Nothing but the caller's own bytes has turned. -/
structure OutOnly (x : Option Nat) (w w' : World) : Prop where
  os : w'.os = w.os
  tape : w'.tape = w.tape
  output : w'.output = w.output
  size : w'.heap.size = w.heap.size
  block : ∀ j, x ≠ some j → w'.heap[j]? = w.heap[j]?

theorem OutOnly.refl (x : Option Nat) (w : World) : OutOnly x w w := ⟨rfl, rfl, rfl, rfl, fun _ _ => rfl⟩
theorem OutOnly.only {x : Option Nat} {w w' w'' : World} {g : Nat} (h : OutOnly x w w') (ho : Only g w' w'') (hg : x = some g) : OutOnly x w w'' :=
  ⟨ho.os.trans h.os, ho.tape.trans h.tape, ho.output.trans h.output, ho.size.trans h.size, fun j hj => (ho.block j (fun e => hj (by rw [hg, e]))).trans (h.block j hj)⟩
theorem OutOnly.below {x : Option Nat} {w0 w w' : World} {B : Nat} (h : OutOnly x w w') (hb : Below B w0 w) (hx : ∀ g, x = some g → B ≤ g) : Below B w0 w' :=
  ⟨h.os.trans hb.os, h.tape.trans hb.tape, h.output.trans hb.output, by rw [h.size]; exact hb.size, fun j hj => (h.block j (fun e => by have := hx j e; omega)).trans (hb.block j hj)⟩

theorem DkAt.out {x : Option Nat} {w w' : World} {D S : Nat} {wv : Value} {k : Dk} (h : @DkAt ⟨x⟩ w D S wv k) (ho : OutOnly x w w') (hx : ∀ g, x = some g → Tag w g 5) : @DkAt ⟨x⟩ w' D S wv k := by
  letI : Inhabited (Option Nat) := ⟨x⟩
  have key : ∀ g e, Tag w g e → e ≠ 5 → w'.heap[g]? = w.heap[g]? := fun g e ht he => ho.block g (fun h1 => ht.ne (hx g h1) he rfl)
  have rk : ∀ v b, RdU w v b → RdU w' v b := fun v b hr => by
    have hk : ∀ g, v.ownBlock = some g → w'.heap[g]? = w.heap[g]? := fun g hg => ho.block g (hr.2 g hg).2
    exact ⟨hr.1.kept fun g _ hv => hk g hv, fun g hg => ⟨(hr.2 g hg).1.kept (hk g hg), (hr.2 g hg).2⟩⟩
  obtain ⟨vs, ns, css, a, b, c, d, e, g, i⟩ := h
  refine ⟨vs, ns, css, a.kept (key _ _ a.tag (by decide)), b.kept (key _ _ b.tag (by decide)), ⟨c.1, c.2.1, fun j v b hv hb => rk _ _ (c.2.2 j v b hv hb)⟩, ⟨d.1, d.2.1, fun j v b hv hb => rk _ _ (d.2.2 j v b hv hb)⟩, e.kept fun g' hg' ht => key _ _ ht (by decide), g, fun j x cs hx hcs => ?_⟩
  have := i j x cs hx hcs
  cases x with
  | put q b =>
    obtain ⟨hi, g1, g2, v, hc, c1, c2, hr⟩ := this
    exact ⟨hi, g1, g2, v, hc, c1.kept (key _ _ c1.tag (by decide)), c2.kept (key _ _ c2.tag (by decide)), rk _ _ hr⟩
  | cut q n =>
    obtain ⟨hi, g1, g2, hc, c1, c2⟩ := this
    exact ⟨hi, g1, g2, hc, c1.kept (key _ _ c1.tag (by decide)), c2.kept (key _ _ c2.tag (by decide))⟩

theorem DkAt.idx [Inhabited (Option Nat)] {w : World} {D S : Nat} {wv : Value} {k : Dk} (h : DkAt w D S wv k) : ∀ (j i : Nat) (b : Bs), k.wait[j]? = some (.put i b) → i < 16 := by
  obtain ⟨vs, ns, css, hd⟩ := h
  intro j i b hj
  have hl : j < k.wait.length := (List.getElem?_eq_some_iff.1 hj).1
  exact (hd.ws j _ _ hj (List.getElem?_eq_getElem (by rw [hd.wl]; exact hl))).1

/-- The blocks of two disks are apart. -/
structure Apt (D S : Nat) (wv : Value) (D2 S2 : Nat) (wv2 : Value) : Prop where
  d : D2 ≠ D
  s : S2 ≠ S
  v : ∀ g, wv2.ownBlock = some g → wv.ownBlock ≠ some g

theorem Apt.swap {D S : Nat} {wv : Value} {D2 S2 : Nat} {wv2 : Value} (h : Apt D S wv D2 S2 wv2) : Apt D2 S2 wv2 D S wv := ⟨h.d.symm, h.s.symm, fun g hg e => h.v g e hg⟩

/-- What one disk does, another one does not feel. -/
theorem DkAt.other [Inhabited (Option Nat)] {w w' : World} {D S D2 S2 : Nat} {wv wv2 : Value} {k k2 : Dk} (h2 : DkAt w D2 S2 wv2 k2) (h : DkAt w D S wv k) (m : Mv D S wv w w') (ha : Apt D S wv D2 S2 wv2) : DkAt w' D2 S2 wv2 k2 := by
  have kt := m.kt h
  obtain ⟨vs, ns, css, hd⟩ := h
  obtain ⟨vs2, ns2, css2, a, b, c, d, e, f, g⟩ := h2
  refine ⟨vs2, ns2, css2, a.kept (m.block _ a.lt ha.d (a.tag.ne hd.cs.tag (by decide)) (fun e => a.tag.ne (hd.wt.tag _ e) (by decide) rfl)), b.kept (m.block _ b.lt (b.tag.ne hd.cd.tag (by decide)) ha.s (fun e => b.tag.ne (hd.wt.tag _ e) (by decide) rfl)), c.kt kt (by decide), d.kt kt (by decide),
    e.kept fun g' hg' ht => m.block _ ht.lt (ht.ne hd.cd.tag (by decide)) (ht.ne hd.cs.tag (by decide)) (ha.v g' hg'), f, fun i x cs hx hcs => (g i x cs hx hcs).kt kt (by decide) (by decide) (by decide)⟩

theorem Apt.grew [Inhabited (Option Nat)] {w : World} {D S D2 S2 : Nat} {wv wv' wv2 : Value} {k2 : Dk} (h : Apt D S wv D2 S2 wv2) (hg : Grew w wv wv') (h2 : DkAt w D2 S2 wv2 k2) : Apt D S wv' D2 S2 wv2 := by
  refine ⟨h.d, h.s, fun g hg2 e => ?_⟩
  rcases hg g e with h1 | h1
  · exact h.v g hg2 h1
  · obtain ⟨vs, ns, css, hd⟩ := h2
    have := (hd.wt.tag g hg2).lt
    omega

theorem burnK_wl (k : Dk) : (burnK k).2.wait.length = k.wait.length := by rw [(burnK_wait k).1]

theorem putK_wl (k : Dk) (x : St) : (putK k x).wait.length ≤ k.wait.length + 1 := by
  unfold putK
  split
  · omega
  · simp

theorem doK_wait (k : Dk) (s : Sp) : (doK k s).2.wait.length ≤ k.wait.length + 1 := by
  unfold doK
  split
  · split
    · unfold appK
      split
      · simp
      · split
        · simp
        · exact putK_wl _ _
    · simp
  · split
    · split
      · exact putK_wl _ _
      · simp
    · split
      · unfold syncK
        split
        · simp [settleK, burnK_wl]
        · rw [burnK_wl]; omega
      · split
        · split <;> simp
        · split
          · simp [crashK]
          · split
            · split
              · simp [editK, settleK]
              · simp
            · simp

theorem edL_length (l : List Bs) (i a : Nat) (x : UInt8) : (edL l i a x).length = l.length := by simp [edL]

theorem edL_le {l : List Bs} {i a m : Nat} {x : UInt8} (h : ∀ b ∈ l, b.length ≤ m) : ∀ b ∈ edL l i a x, b.length ≤ m := by
  refine mem_set_le h ?_
  rw [List.length_set]
  rcases Nat.lt_or_ge i l.length with hlt | hge
  · rw [List.getD_eq_getElem?_getD, List.getElem?_eq_getElem hlt]
    exact h _ (List.getElem_mem hlt)
  · rw [List.getD_eq_getElem?_getD, List.getElem?_eq_none hge]
    simp

theorem Ok.edit {k : Dk} (h : Ok k) (i a : Nat) (x : UInt8) : Ok (editK k i a x) := by
  have hs := h.settle k.wait.length
  have hw : (settleK k k.wait.length).wait = [] := by simp [settleK]
  have hn : (settleK k k.wait.length).now = (settleK k k.wait.length).set := by
    have := hs.now
    rw [hw] at this
    exact this
  refine ⟨by simp only [editK]; rw [edL_length]; exact hs.sl, ?_, fun j l hl => ?_, hs.f0, hs.f1⟩
  · simp only [editK]
    rw [hw, hn]
    rfl
  · simp only [editK] at hl
    rw [hw, List.take_nil, List.foldl_nil] at hl
    exact edL_le (hs.pre 0) l hl

theorem Ok.do {k : Dk} (h : Ok k) (s : Sp) (hi : ∀ (j i : Nat) (b : Bs), k.wait[j]? = some (.put i b) → i < 16) (hn : s.n ≤ 9223372036854775807) : Ok (doK k s).2 := by
  unfold doK
  split
  · split
    · exact h.append _ _
    · exact h
  · split
    · split
      · exact h.cut _ _
      · exact h
    · split
      · exact h.sync
      · split
        · split
          · exact h
          · exact ⟨h.sl, h.now, h.pre, by simp only; omega, hn⟩
        · split
          · exact h.crash _ _ hi
          · split
            · split
              · exact h.edit _ _ _
              · exact h
            · exact h

end Go.Proofs.Ytbbbgpdhdlknjaa
