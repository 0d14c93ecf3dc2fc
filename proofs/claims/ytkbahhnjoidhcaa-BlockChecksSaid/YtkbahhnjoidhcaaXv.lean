/- A block of one's own, turned in place: what stays. -/
import Derived.Test.YtkbahhnjoidhcaaXu
namespace Go.Proofs.Ytkbahhnjoidhcaa
set_option linter.unusedVariables false
set_option linter.unusedSimpArgs false
open Go.RowKit

theorem Txs.ok {F : Nat → Prop} {w : World} {v : Value} {l : List TxD} (h : Txs F w v l) : ∀ x ∈ l, (∀ y ∈ x.ins, InOk y) ∧ ∀ y ∈ x.outs, OutOk y := by
  intro x hx
  obtain ⟨us, h1, h2, h3⟩ := h
  obtain ⟨i, hi⟩ := List.getElem?_of_mem hx
  obtain ⟨u, hu⟩ : ∃ u, us[i]? = some u := ⟨_, List.getElem?_eq_getElem (by have := (List.getElem?_eq_some_iff.1 hi).1; omega)⟩
  obtain ⟨⟨vs, _, h5, _⟩, h6⟩ := h3 i x u hi hu
  exact ⟨h5, h6.1⟩

/-- What lies up to G, and from S on, is as it was. -/
def Trn (G S : Nat) (w w' : World) : Prop := Below (G + 1) w w' ∧ ∀ k, S ≤ k → k < w.heap.size → w'.heap[k]? = w.heap[k]?

theorem Trn.refl (G S : Nat) (w : World) : Trn G S w w := ⟨Below.refl _ _, fun _ _ _ => rfl⟩
theorem Trn.only {G S g : Nat} {w w' w'' : World} (h : Trn G S w w') (ho : Only g w' w'') (h1 : G + 1 ≤ g) (h2 : g < S) : Trn G S w w'' := ⟨Below.only h.1 ho h1, fun k hk hw => (ho.block k (by omega)).trans (h.2 k hk hw)⟩
theorem Trn.drew {G S : Nat} {w w' : World} (h : Trn G S w w') : Trn G S w w'.drew := ⟨h.1.drew, h.2⟩
theorem Trn.cb {G S : Nat} {w w' : World} (h : Trn G S w w') {e : TypeId} {g : Nat} {L : List Value} (hc : CB w e g L) (hg : g ≤ G ∨ S ≤ g) : CB w' e g L := by
  have hlt := hc.lt
  unfold CB at hc ⊢
  rcases hg with hg | hg
  · rw [h.1.block g (by omega)]; exact hc
  · rw [h.2 g hg hlt]; exact hc
theorem Trn.kp {G S : Nat} {w w' : World} (h : Trn G S w w') : Kp (fun b => S ≤ b) w w' := fun k hk hF => h.2 k hF hk

/-- Where the parts of it lie. -/
def Lt (us : List (Value × Value)) (S : Nat) (vp vt : Value) : Prop := (∀ b, vp.ownBlock = some b → b < S) ∧ (∀ b, vt.ownBlock = some b → b < S) ∧ ∀ (i : Nat) (u : Value × Value), us[i]? = some u → (∀ b, u.1.ownBlock = some b → b < S) ∧ ∀ b, u.2.ownBlock = some b → b < S

/-- Its parents, its transactions: each cell of its kind. -/
def TI (us : List (Value × Value)) (G S : Nat) (vp vt : Value) (P N : Nat) (w w' : World) : Prop := Trn G S w w' ∧ Wk okP (G + 1) 24 32 w' vp P ∧ WkT us (G + 1) w' vt N

theorem TI.drew {us : List (Value × Value)} {G S : Nat} {vp vt : Value} {P N : Nat} {w w' : World} (h : TI us G S vp vt P N w w') : TI us G S vp vt P N w w'.drew := ⟨h.1.drew, h.2.1.fresh (Below.refl _ _).drew, h.2.2.fresh (Below.refl _ _).drew⟩

theorem WkT.onlyP {us : List (Value × Value)} {base n g m s : Nat} {w : World} {v vp : Value} {xs : List Value} (h : WkT us base w v n) (hp : w.ownsRow base 24 s vp m xs) (hg : vp.ownBlock = some g) (j : Nat) (u : Value) : WkT us base (w.setCell ⟨g, j, none⟩ u) v n := by
  obtain ⟨h1, ⟨x2, q2, r2⟩, h3, h4⟩ := h
  have ho := Only.setCell w g j u
  refine ⟨h1, Wk.only ⟨x2, q2, r2⟩ ho (own_type hp q2 (by decide) hg), fun i p hi => ?_, h4⟩
  obtain ⟨⟨n1, ⟨x3, q3, r3⟩⟩, ⟨n2, ⟨x4, q4, r4⟩⟩⟩ := h3 i p hi
  exact ⟨WkI.only ⟨n1, x3, q3, r3⟩ ho (own_type hp q3 (by decide) hg), WkO.only ⟨n2, x4, q4, r4⟩ ho (own_type hp q4 (by decide) hg)⟩

theorem TI.setP {us : List (Value × Value)} {G S g c : Nat} {vt : Value} {P N : Nat} {w w' : World} (h : TI us G S (.slice (some ⟨g, 0, none⟩) P c) vt P N w w') (hl : Lt us S (.slice (some ⟨g, 0, none⟩) P c) vt) (j : Nat) (z : Int) : TI us G S (.slice (some ⟨g, 0, none⟩) P c) vt P N w (w'.setCell ⟨g, j, none⟩ (.int .u8 z)) := by
  obtain ⟨h1, h2, h3⟩ := h
  have hs := h2.set j (.int .u8 z) ⟨_, rfl⟩
  obtain ⟨xs, q, r⟩ := h2
  exact ⟨h1.only (Only.setCell _ _ _ _) (q.lt g rfl).1 (hl.1 g rfl), hs, h3.onlyP q rfl _ _⟩

theorem TI.setT {us : List (Value × Value)} {G S g c : Nat} {vp : Value} {P N : Nat} {w w' : World} (h : TI us G S vp (.slice (some ⟨g, 0, none⟩) N c) P N w w') (hl : Lt us S vp (.slice (some ⟨g, 0, none⟩) N c)) (i : Nat) (z : Int) : TI us G S vp (.slice (some ⟨g, 0, none⟩) N c) P N w (w'.setCell ⟨g, i * 3 + 2, none⟩ (.int .u64 z)) := by
  obtain ⟨h1, ⟨xs, q, r⟩, h3⟩ := h
  have hs := h3.setT i z
  obtain ⟨_, ⟨x2, q2, r2⟩, _, _⟩ := h3
  exact ⟨h1.only (Only.setCell _ _ _ _) (q2.lt g rfl).1 (hl.2.1 g rfl), Wk.only ⟨xs, q, r⟩ (Only.setCell _ _ _ _) (own_type q2 q (by decide) rfl), hs⟩

theorem TI.setI {us : List (Value × Value)} {G S g m c i : Nat} {vp vt : Value} {P N : Nat} {w w' : World} {u : Value × Value} (h : TI us G S vp vt P N w w') (hl : Lt us S vp vt) (hu : us[i]? = some u) (he : u.1 = .slice (some ⟨g, 0, none⟩) m c) (k : Nat) (z : Int) : TI us G S vp vt P N w (w'.setCell ⟨g, k * 34 + 32, none⟩ (.int .u32 z)) := by
  obtain ⟨h1, ⟨xs, q, r⟩, h3⟩ := h
  have hs := h3.setI hu he k z
  obtain ⟨_, _, h4, _⟩ := h3
  obtain ⟨⟨n1, ⟨x3, q3, r3⟩⟩, _⟩ := h4 i u hu
  have hg : u.1.ownBlock = some g := by rw [he]; rfl
  exact ⟨h1.only (Only.setCell _ _ _ _) (q3.lt g hg).1 ((hl.2.2 i u hu).1 g hg), Wk.only ⟨xs, q, r⟩ (Only.setCell _ _ _ _) (own_type q3 q (by decide) hg), hs⟩

theorem TI.setO {us : List (Value × Value)} {G S g m c i : Nat} {vp vt : Value} {P N : Nat} {w w' : World} {u : Value × Value} (h : TI us G S vp vt P N w w') (hl : Lt us S vp vt) (hu : us[i]? = some u) (he : u.2 = .slice (some ⟨g, 0, none⟩) m c) (k : Nat) (z : Int) : TI us G S vp vt P N w (w'.setCell ⟨g, k * 33, none⟩ (.int .u64 z)) := by
  obtain ⟨h1, ⟨xs, q, r⟩, h3⟩ := h
  have hs := h3.setO hu he k z
  obtain ⟨_, _, h4, _⟩ := h3
  obtain ⟨_, ⟨n2, ⟨x4, q4, r4⟩⟩⟩ := h4 i u hu
  have hg : u.2.ownBlock = some g := by rw [he]; rfl
  exact ⟨h1.only (Only.setCell _ _ _ _) (q4.lt g hg).1 ((hl.2.2 i u hu).2 g hg), Wk.only ⟨xs, q, r⟩ (Only.setCell _ _ _ _) (own_type q4 q (by decide) hg), hs⟩

/-- A parent's first byte. -/
theorem TI.par {us : List (Value × Value)} {G S : Nat} {vp vt : Value} {P N : Nat} {w w' : World} (h : TI us G S vp vt P N w w') {k : Nat} (hk : k < P) : ∃ g c z, vp = .slice (some ⟨g, 0, none⟩) P c ∧ w'.frozen? ⟨g, k * 32, none⟩ = false ∧ w'.cell? ⟨g, k * 32, none⟩ = some (.int .u8 z) := by
  obtain ⟨g, c, he, hf, _, hc⟩ := h.2.1.at (by omega)
  obtain ⟨u, hu, z, rfl⟩ := hc (k * 32) (by omega)
  exact ⟨g, c, z, he, hf _, hu⟩

/-- A transaction at its place. -/
theorem TI.tx {us : List (Value × Value)} {G S : Nat} {vp vt : Value} {P N : Nat} {w w' : World} (h : TI us G S vp vt P N w w') {k : Nat} (hk : k < N) {u : Value × Value} (hu : us[k]? = some u) : ∃ g c z, vt = .slice (some ⟨g, 0, none⟩) N c ∧ (∀ j, w'.frozen? ⟨g, j, none⟩ = false) ∧ w'.cell? ⟨g, k * 3, none⟩ = some u.1 ∧ w'.cell? ⟨g, k * 3 + 1, none⟩ = some u.2 ∧ w'.cell? ⟨g, k * 3 + 2, none⟩ = some (.int .u64 z) := by
  obtain ⟨g, c, he, hf, _, hc⟩ := h.2.2.2.1.at (by omega)
  obtain ⟨u0, h0, _, e0⟩ := hc (k * 3) (by omega)
  obtain ⟨u1, h1, _, e1⟩ := hc (k * 3 + 1) (by omega)
  obtain ⟨u2, h2, e2, _⟩ := hc (k * 3 + 2) (by omega)
  obtain ⟨z, rfl⟩ := e2 (by omega)
  have q0 := (e0 u (by rw [show k * 3 / 3 = k by omega]; exact hu)).1 (by omega)
  have q1 := (e1 u (by rw [show (k * 3 + 1) / 3 = k by omega]; exact hu)).2 (by omega)
  subst q0
  subst q1
  exact ⟨g, c, z, he, hf, h0, h1, h2⟩

theorem TI.inpS {us : List (Value × Value)} {G S i : Nat} {vp vt : Value} {P N : Nat} {w w' : World} (h : TI us G S vp vt P N w w') {u : Value × Value} (hu : us[i]? = some u) : (∃ a m c, u.1 = .slice a m c) ∧ ∃ a m c, u.2 = .slice a m c := by
  obtain ⟨⟨m, hm⟩, ⟨n, hn⟩⟩ := h.2.2.2.2.1 i u hu
  obtain ⟨a, c, e⟩ := hm.slice
  obtain ⟨a', c', e'⟩ := hn.slice
  exact ⟨⟨a, m, c, e⟩, ⟨a', n, c', e'⟩⟩

theorem TI.inp {us : List (Value × Value)} {G S i m c : Nat} {a : Option Addr} {u2 vp vt : Value} {P N : Nat} {w w' : World} (h : TI us G S vp vt P N w w') (hu : us[i]? = some (.slice a m c, u2)) : (m : Int) ≤ 9223372036854775807 ∧ ∀ k, k < m → ∃ g z, a = some ⟨g, 0, none⟩ ∧ w'.frozen? ⟨g, k * 34 + 32, none⟩ = false ∧ w'.cell? ⟨g, k * 34 + 32, none⟩ = some (.int .u32 z) := by
  obtain ⟨m', hm⟩ := (h.2.2.2.2.1 i _ hu).1
  have he : m' = m := by
    obtain ⟨_, _, e⟩ := hm.slice
    simp only [Value.slice.injEq] at e
    exact e.2.1.symm
  subst he
  refine ⟨by obtain ⟨xs, q, _⟩ := hm; exact rd_small' (Rd.of_own q), fun k hk => ?_⟩
  obtain ⟨g, c', he, hf, _, hc⟩ := hm.at (by omega)
  simp only [Value.slice.injEq] at he
  obtain ⟨v, h0, e0⟩ := hc (k * 34 + 32) (by omega)
  obtain ⟨z, rfl⟩ := e0 (by omega)
  exact ⟨g, z, he.1, hf _, h0⟩

theorem TI.outp {us : List (Value × Value)} {G S i m c : Nat} {a : Option Addr} {u1 vp vt : Value} {P N : Nat} {w w' : World} (h : TI us G S vp vt P N w w') (hu : us[i]? = some (u1, .slice a m c)) : (m : Int) ≤ 9223372036854775807 ∧ ∀ k, k < m → ∃ g z, a = some ⟨g, 0, none⟩ ∧ w'.frozen? ⟨g, k * 33, none⟩ = false ∧ w'.cell? ⟨g, k * 33, none⟩ = some (.int .u64 z) := by
  obtain ⟨m', hm⟩ := (h.2.2.2.2.1 i _ hu).2
  have he : m' = m := by
    obtain ⟨_, _, e⟩ := hm.slice
    simp only [Value.slice.injEq] at e
    exact e.2.1.symm
  subst he
  refine ⟨by obtain ⟨xs, q, _⟩ := hm; exact rd_small' (Rd.of_own q), fun k hk => ?_⟩
  obtain ⟨g, c', he, hf, _, hc⟩ := hm.at (by omega)
  simp only [Value.slice.injEq] at he
  obtain ⟨v, h0, e0⟩ := hc (k * 33) (by omega)
  obtain ⟨z, rfl⟩ := e0 (by omega)
  exact ⟨g, z, he.1, hf _, h0⟩

/-- Where the parts of it lie, when it was made. -/
theorem OwT.lt' {w0 w : World} {F : Nat → Prop} {us : List (Value × Value)} {base : Nat} {v vp : Value} {l : List TxD} {e : TypeId} {s n : Nat} {xs : List Value} (h : OwT w0 F us base w v l) (hp : w.ownsRow base e s vp n xs) : Lt us w.heap.size vp v := by
  obtain ⟨h1, h2, h3, h4⟩ := h
  refine ⟨fun b hb => (hp.lt b hb).2, fun b hb => (h2.lt b hb).2, fun i u hu => ?_⟩
  obtain ⟨x, hx⟩ : ∃ x, l[i]? = some x := ⟨_, List.getElem?_eq_getElem (by have := (List.getElem?_eq_some_iff.1 hu).1; omega)⟩
  obtain ⟨h5, h6⟩ := h3 i x u hx hu
  exact ⟨fun b hb => (h5.lt b hb).2, fun b hb => (World.ownsRow.lt h6 b hb).2⟩

theorem bvs_okP (l : Bs) : ∀ (j : Nat) (u : Value), (bvs l)[j]? = some u → okP j u := by
  intro j u hu
  simp only [bvs, List.getElem?_map] at hu
  obtain ⟨b, _, rfl⟩ := Option.map_eq_some_iff.1 hu
  exact ⟨_, rfl⟩

end Go.Proofs.Ytkbahhnjoidhcaa
