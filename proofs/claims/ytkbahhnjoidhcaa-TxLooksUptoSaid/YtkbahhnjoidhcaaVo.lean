/- A transaction of one's own, its witnesses too, turned in place: what stays. -/
import Derived.Test.YtkbahhnjoidhcaaXv
namespace Go.Proofs.Ytkbahhnjoidhcaa
set_option linter.unusedVariables false
set_option linter.unusedSimpArgs false
open Go.RowKit

/-- No two of these lie in one block. -/
def DisV (vs : List Value) : Prop := ∀ (i j : Nat) (p q : Value), vs[i]? = some p → vs[j]? = some q → i ≠ j → ∀ b, p.ownBlock = some b → q.ownBlock ≠ some b

theorem DisV.nil : DisV [] := fun i j p q h => by simp at h

theorem DisV.snoc {us : List Value} {p : Value} (h : DisV us) (hp : ∀ (i : Nat) (q : Value), us[i]? = some q → ∀ b, q.ownBlock = some b → p.ownBlock ≠ some b) : DisV (us ++ [p]) := by
  intro i j x y hx hy hij b
  rcases Nat.lt_or_ge i us.length with hi | hi
  · rw [List.getElem?_append_left hi] at hx
    rcases Nat.lt_or_ge j us.length with hj | hj
    · rw [List.getElem?_append_left hj] at hy
      exact h i j x y hx hy hij b
    · rw [List.getElem?_append_right hj] at hy
      have : j - us.length = 0 := by have := (List.getElem?_eq_some_iff.1 hy).1; simp at this; omega
      rw [this] at hy
      simp at hy
      subst hy
      exact hp i x hx b
  · rw [List.getElem?_append_right hi] at hx
    have h0 : i - us.length = 0 := by have := (List.getElem?_eq_some_iff.1 hx).1; simp at this; omega
    rw [h0] at hx
    simp at hx
    subst hx
    rcases Nat.lt_or_ge j us.length with hj | hj
    · rw [List.getElem?_append_left hj] at hy
      exact fun e1 e2 => hp j y hy b e2 e1
    · rw [List.getElem?_append_right hj] at hy
      have : j - us.length = 0 := by have := (List.getElem?_eq_some_iff.1 hy).1; simp at this; omega
      omega

/-- Inputs of one's own, their witnesses too. -/
def OwX (vs : List Value) (base : Nat) (w : World) (v : Value) (l : List InD) : Prop := vs.length = l.length ∧ w.ownsRow base 44 34 v l.length ((l.zip vs).flatMap inC) ∧ (∀ (i : Nat) (x : InD) (u : Value), l[i]? = some x → vs[i]? = some u → w.ownsRow base 5 1 u x.wit.length (bvs x.wit)) ∧ DisV vs

theorem OwX.fresh {vs : List Value} {base : Nat} {w w' : World} {v : Value} {l : List InD} (h : OwX vs base w v l) (hb : Below w.heap.size w w') : OwX vs base w' v l := by
  obtain ⟨h1, h2, h3, h4⟩ := h
  exact ⟨h1, own_fresh h2 hb, fun i x u hx hu => own_fresh (h3 i x u hx hu) hb, h4⟩

theorem OwX.only {vs : List Value} {base g : Nat} {w w' : World} {v : Value} {l : List InD} (h : OwX vs base w v l) (ho : Only g w w') (hg : g < base) : OwX vs base w' v l := by
  obtain ⟨h1, h2, h3, h4⟩ := h
  exact ⟨h1, own_onlyT h2 ho (fun e => by have := (h2.lt _ e).1; omega), fun i x u hx hu => own_onlyT (h3 i x u hx hu) ho (fun e => by have := ((h3 i x u hx hu).lt _ e).1; omega), h4⟩

theorem OwX.ins {vs : List Value} {base : Nat} {w : World} {v : Value} {l : List InD} (h : OwX vs base w v l) (hok : ∀ x ∈ l, InOk x) : Ins (fun _ => True) w v l := by
  obtain ⟨h1, h2, h3, h4⟩ := h
  exact ⟨vs, h1, hok, ⟨Rd.of_own h2, fun _ _ => trivial⟩, fun i x u hx hu => ⟨Rd.of_own (h3 i x u hx hu), fun _ _ => trivial⟩⟩

theorem OwX.grow {wr wy w8 : World} {vs : List Value} {base : Nat} {v v8 u : Value} {l : List InD} {x : InD} (h : OwX vs base wr v l) (bz : Below wr.heap.size wr wy) (hbase : base ≤ wr.heap.size)
    (ow : wy.ownsRow wr.heap.size 5 1 u x.wit.length (bvs x.wit)) (g8 : wy.grownBy w8 v.ownBlock) (o8 : w8.ownsRow base 44 34 v8 (l.length + 1) ((l.zip vs).flatMap inC ++ inC (x, u))) : OwX (vs ++ [u]) base w8 v8 (l ++ [x]) := by
  obtain ⟨h1, h2, h3, h4⟩ := h
  have hv : ∀ k, v.ownBlock = some k → k < wr.heap.size := fun k hk => (h2.lt k hk).2
  refine ⟨by simp [h1], ?_, fun i y t hy ht => ?_, DisV.snoc h4 (fun i q hq b => ?_)⟩
  · rw [List.length_append, List.zip_append (by rw [h1]), List.flatMap_append]
    simpa using o8
  · rcases Nat.lt_or_ge i l.length with hi | hi
    · rw [List.getElem?_append_left hi] at hy
      rw [List.getElem?_append_left (by rw [h1]; exact hi)] at ht
      have h5 := h3 i y t hy ht
      exact own_grownT (own_fresh h5 bz) g8 (fun k hk => own_type h5 h2 (by decide) hk)
    · have hi' : i - l.length = 0 := by
        have := (List.getElem?_eq_some_iff.1 hy).1
        simp at this
        omega
      rw [List.getElem?_append_right hi, hi'] at hy
      rw [List.getElem?_append_right (by rw [h1]; exact hi), h1, hi'] at ht
      simp at hy ht
      subst hy
      subst ht
      exact own_lower' (own_grownT ow g8 (fun k hk e => by have := hv k e; have := (ow.lt k hk).1; omega)) hbase
  · obtain ⟨y, hy⟩ : ∃ y, l[i]? = some y := ⟨_, List.getElem?_eq_getElem (by have := (List.getElem?_eq_some_iff.1 hq).1; omega)⟩
    exact fun e1 e2 => by have := ((h3 i y q hy hq).lt b e1).2; have := (ow.lt b e2).1; omega

def okJ (vs : List Value) (j : Nat) (u : Value) : Prop := (j % 34 = 32 → ∃ z, u = .int .u32 z) ∧ ∀ t, vs[j / 34]? = some t → j % 34 = 33 → u = t
def WkJ (vs : List Value) (base : Nat) (w : World) (v : Value) (n : Nat) : Prop := vs.length = n ∧ Wk (okJ vs) base 44 34 w v n ∧ (∀ (i : Nat) (u : Value), vs[i]? = some u → ∃ m, Wk okP base 5 1 w u m) ∧ DisV vs

theorem OwX.wk {vs : List Value} {base : Nat} {w : World} {v : Value} {l : List InD} (h : OwX vs base w v l) (hok : ∀ x ∈ l, InOk x) : WkJ vs base w v l.length := by
  obtain ⟨h1, h2, h3, h4⟩ := h
  refine ⟨h1, ⟨_, h2, fun j u hu => ?_⟩, fun i u hu => ?_, h4⟩
  · obtain ⟨⟨x, t⟩, hx, hxu⟩ := flat_at inC 34 _ (fun z hz => inC_length (hok _ (List.of_mem_zip hz).1)) (by decide) hu
    have hi : x.id.length = 32 := hok x (List.of_mem_zip (List.mem_of_getElem? hx)).1
    rw [List.getElem?_zip_eq_some] at hx
    refine ⟨fun hj => ?_, fun p hp hj => ?_⟩
    · rw [hj] at hxu
      change (bvs x.id ++ [Value.int .u32 x.n, t])[32]? = some u at hxu
      rw [List.getElem?_append_right (by rw [bvs_length]; omega), bvs_length] at hxu
      simp only [hi] at hxu
      simp at hxu
      exact ⟨_, hxu.symm⟩
    · rw [hx.2] at hp
      cases hp
      rw [hj] at hxu
      change (bvs x.id ++ [Value.int .u32 x.n, t])[33]? = some u at hxu
      rw [List.getElem?_append_right (by rw [bvs_length]; omega), bvs_length] at hxu
      simp only [hi] at hxu
      simp at hxu
      exact hxu.symm
  · obtain ⟨x, hx⟩ : ∃ x, l[i]? = some x := ⟨_, List.getElem?_eq_getElem (by have := (List.getElem?_eq_some_iff.1 hu).1; omega)⟩
    exact ⟨_, _, h3 i x u hx hu, bvs_okP _⟩

/-- Where the parts of it lie. -/
def LtJ (vs : List Value) (S : Nat) (vi vo : Value) : Prop := (∀ b, vi.ownBlock = some b → b < S) ∧ (∀ b, vo.ownBlock = some b → b < S) ∧ ∀ (i : Nat) (u : Value), vs[i]? = some u → ∀ b, u.ownBlock = some b → b < S

theorem OwX.lt' {vs : List Value} {base : Nat} {w : World} {v vo : Value} {l : List InD} {e : TypeId} {s n : Nat} {xs : List Value} (h : OwX vs base w v l) (hp : w.ownsRow base e s vo n xs) : LtJ vs w.heap.size v vo := by
  obtain ⟨h1, h2, h3, h4⟩ := h
  refine ⟨fun b hb => (h2.lt b hb).2, fun b hb => (hp.lt b hb).2, fun i u hu => ?_⟩
  obtain ⟨x, hx⟩ : ∃ x, l[i]? = some x := ⟨_, List.getElem?_eq_getElem (by have := (List.getElem?_eq_some_iff.1 hu).1; omega)⟩
  exact fun b hb => ((h3 i x u hx hu).lt b hb).2

/-- Its inputs, its outputs: each cell of its kind. -/
def TJ (vs : List Value) (G S : Nat) (vi vo : Value) (N K : Nat) (w w' : World) : Prop := Trn G S w w' ∧ WkJ vs (G + 1) w' vi N ∧ Wk okO (G + 1) 46 33 w' vo K

theorem TJ.drew {vs : List Value} {G S : Nat} {vi vo : Value} {N K : Nat} {w w' : World} (h : TJ vs G S vi vo N K w w') : TJ vs G S vi vo N K w w'.drew := by
  obtain ⟨h1, ⟨h2, h3, h4, h5⟩, h6⟩ := h
  exact ⟨h1.drew, ⟨h2, h3.fresh (Below.refl _ _).drew, fun i u hu => by obtain ⟨m, hm⟩ := h4 i u hu; exact ⟨m, hm.fresh (Below.refl _ _).drew⟩, h5⟩, h6.fresh (Below.refl _ _).drew⟩

theorem TJ.setN {vs : List Value} {G S g c : Nat} {vo : Value} {N K : Nat} {w w' : World} (h : TJ vs G S (.slice (some ⟨g, 0, none⟩) N c) vo N K w w') (hl : LtJ vs S (.slice (some ⟨g, 0, none⟩) N c) vo) (k : Nat) (z : Int) : TJ vs G S (.slice (some ⟨g, 0, none⟩) N c) vo N K w (w'.setCell ⟨g, k * 34 + 32, none⟩ (.int .u32 z)) := by
  obtain ⟨h1, ⟨h2, h3, h4, h5⟩, ⟨xs, q6, r6⟩⟩ := h
  have ho := Only.setCell w' g (k * 34 + 32) (.int .u32 z)
  have hs := h3.set (k * 34 + 32) (.int .u32 z) ⟨fun _ => ⟨_, rfl⟩, fun t _ hj => by omega⟩
  obtain ⟨x3, q3, r3⟩ := h3
  refine ⟨h1.only ho (q3.lt g rfl).1 (hl.1 g rfl), ⟨h2, hs, fun i u hu => ?_, h5⟩, Wk.only ⟨xs, q6, r6⟩ ho (own_type q3 q6 (by decide) rfl)⟩
  obtain ⟨m, x4, q4, r4⟩ := h4 i u hu
  exact ⟨m, Wk.only ⟨x4, q4, r4⟩ ho (own_type q3 q4 (by decide) rfl)⟩

theorem TJ.setW {vs : List Value} {G S g m c i : Nat} {vi vo : Value} {N K : Nat} {w w' : World} (h : TJ vs G S vi vo N K w w') (hl : LtJ vs S vi vo) (hu : vs[i]? = some (.slice (some ⟨g, 0, none⟩) m c)) (j : Nat) (z : Int) : TJ vs G S vi vo N K w (w'.setCell ⟨g, j, none⟩ (.int .u8 z)) := by
  obtain ⟨h1, ⟨h2, ⟨x3, q3, r3⟩, h4, h5⟩, ⟨xs, q6, r6⟩⟩ := h
  have ho := Only.setCell w' g j (.int .u8 z)
  obtain ⟨m', hm⟩ := h4 i _ hu
  have he : m' = m := by
    obtain ⟨_, _, e⟩ := hm.slice
    simp only [Value.slice.injEq] at e
    exact e.2.1.symm
  subst he
  obtain ⟨x5, q5, r5⟩ := hm
  refine ⟨h1.only ho (q5.lt g rfl).1 (hl.2.2 i _ hu g rfl), ⟨h2, Wk.only ⟨x3, q3, r3⟩ ho (own_type q5 q3 (by decide) rfl), fun i2 u hu2 => ?_, h5⟩, Wk.only ⟨xs, q6, r6⟩ ho (own_type q5 q6 (by decide) rfl)⟩
  by_cases hij : i = i2
  · subst hij
    rw [hu] at hu2
    cases hu2
    exact ⟨m', Wk.set ⟨x5, q5, r5⟩ _ _ ⟨_, rfl⟩⟩
  · obtain ⟨m2, x4, q4, r4⟩ := h4 i2 u hu2
    exact ⟨m2, Wk.only ⟨x4, q4, r4⟩ ho (h5 i i2 _ u hu hu2 hij g rfl)⟩

theorem TJ.setA {vs : List Value} {G S g c : Nat} {vi : Value} {N K : Nat} {w w' : World} (h : TJ vs G S vi (.slice (some ⟨g, 0, none⟩) K c) N K w w') (hl : LtJ vs S vi (.slice (some ⟨g, 0, none⟩) K c)) (k : Nat) (z : Int) : TJ vs G S vi (.slice (some ⟨g, 0, none⟩) K c) N K w (w'.setCell ⟨g, k * 33, none⟩ (.int .u64 z)) := by
  obtain ⟨h1, ⟨h2, ⟨x3, q3, r3⟩, h4, h5⟩, h6⟩ := h
  have ho := Only.setCell w' g (k * 33) (.int .u64 z)
  have hs := h6.set (k * 33) (.int .u64 z) (fun _ => ⟨_, rfl⟩)
  obtain ⟨x6, q6, r6⟩ := h6
  refine ⟨h1.only ho (q6.lt g rfl).1 (hl.2.1 g rfl), ⟨h2, Wk.only ⟨x3, q3, r3⟩ ho (own_type q6 q3 (by decide) rfl), fun i u hu => ?_, h5⟩, hs⟩
  obtain ⟨m, x4, q4, r4⟩ := h4 i u hu
  exact ⟨m, Wk.only ⟨x4, q4, r4⟩ ho (own_type q6 q4 (by decide) rfl)⟩

theorem TJ.inp {vs : List Value} {G S : Nat} {vi vo : Value} {N K : Nat} {w w' : World} (h : TJ vs G S vi vo N K w w') {k : Nat} (hk : k < N) {u : Value} (hu : vs[k]? = some u) : ∃ g c z, vi = .slice (some ⟨g, 0, none⟩) N c ∧ (∀ j, w'.frozen? ⟨g, j, none⟩ = false) ∧ w'.cell? ⟨g, k * 34 + 32, none⟩ = some (.int .u32 z) ∧ w'.cell? ⟨g, k * 34 + 33, none⟩ = some u := by
  obtain ⟨g, c, he, hf, _, hc⟩ := h.2.1.2.1.at (by omega)
  obtain ⟨u1, h1, e1, _⟩ := hc (k * 34 + 32) (by omega)
  obtain ⟨u2, h2, _, e2⟩ := hc (k * 34 + 33) (by omega)
  obtain ⟨z, rfl⟩ := e1 (by omega)
  have q := e2 u (by rw [show (k * 34 + 33) / 34 = k by omega]; exact hu) (by omega)
  subst q
  exact ⟨g, c, z, he, hf, h1, h2⟩

theorem TJ.witS {vs : List Value} {G S i : Nat} {vi vo : Value} {N K : Nat} {w w' : World} (h : TJ vs G S vi vo N K w w') {u : Value} (hu : vs[i]? = some u) : ∃ a m c, u = .slice a m c := by
  obtain ⟨m, hm⟩ := h.2.1.2.2.1 i u hu
  obtain ⟨a, c, e⟩ := hm.slice
  exact ⟨a, m, c, e⟩

theorem TJ.wit {vs : List Value} {G S i m c : Nat} {a : Option Addr} {vi vo : Value} {N K : Nat} {w w' : World} (h : TJ vs G S vi vo N K w w') (hu : vs[i]? = some (.slice a m c)) : (m : Int) ≤ 9223372036854775807 ∧ ∀ k, k < m → ∃ g z, a = some ⟨g, 0, none⟩ ∧ w'.frozen? ⟨g, k, none⟩ = false ∧ w'.cell? ⟨g, k, none⟩ = some (.int .u8 z) := by
  obtain ⟨m', hm⟩ := h.2.1.2.2.1 i _ hu
  have he : m' = m := by
    obtain ⟨_, _, e⟩ := hm.slice
    simp only [Value.slice.injEq] at e
    exact e.2.1.symm
  subst he
  refine ⟨by obtain ⟨xs, q, _⟩ := hm; exact rd_small' (Rd.of_own q), fun k hk => ?_⟩
  obtain ⟨g, c', he, hf, _, hc⟩ := hm.at (by omega)
  simp only [Value.slice.injEq] at he
  obtain ⟨v, h0, z, rfl⟩ := hc k (by omega)
  exact ⟨g, z, he.1, hf _, h0⟩

theorem TJ.out {vs : List Value} {G S : Nat} {vi vo : Value} {N K : Nat} {w w' : World} (h : TJ vs G S vi vo N K w w') {k : Nat} (hk : k < K) : ∃ g c z, vo = .slice (some ⟨g, 0, none⟩) K c ∧ w'.frozen? ⟨g, k * 33, none⟩ = false ∧ w'.cell? ⟨g, k * 33, none⟩ = some (.int .u64 z) := by
  obtain ⟨g, c, he, hf, _, hc⟩ := h.2.2.at (by omega)
  obtain ⟨u1, h1, e1⟩ := hc (k * 33) (by omega)
  obtain ⟨z, rfl⟩ := e1 (by omega)
  exact ⟨g, c, z, he, hf _, h1⟩

theorem OwO.wk' {w : World} {base : Nat} {v : Value} {l : List OutD} (h : OwO base w v l) (hok : ∀ x ∈ l, OutOk x) : Wk okO base 46 33 w v l.length := by
  refine ⟨_, h, fun j u hu hj => ?_⟩
  obtain ⟨x, hx, hxu⟩ := flat_at outC 33 _ (fun z hz => outC_length (hok _ hz)) (by decide) hu
  rw [hj] at hxu
  simp [outC] at hxu
  exact ⟨_, hxu.symm⟩

set_option maxRecDepth 100000 in
theorem build_input (w : World) (x : InD) (hx : InOk x) (a : Option Addr) (n c : Nat) :
    (Instr.build 44 #[(0, .agg (ptC x).toArray), (1, .slice a n c)]).run Try.prog w = .ok (.agg (inC (x, .slice a n c)).toArray) w := by
  obtain ⟨id, m, wit⟩ := x
  obtain ⟨a0, a1, a2, a3, a4, a5, a6, a7, a8, a9, a10, a11, a12, a13, a14, a15, a16, a17, a18, a19, a20, a21, a22, a23, a24, a25, a26, a27, a28, a29, a30, a31, rfl⟩ := of32' (h := id) hx
  kernel_rfl

theorem infoZIn : (Try.prog.info? 44).map (fun i => (i.zero, i.size)) = some (some (.agg ((List.replicate 32 (Value.int .u8 0)) ++ [Value.int .u32 0, Value.slice none 0 0]).toArray), 34) := by kernel_rfl

end Go.Proofs.Ytkbahhnjoidhcaa
