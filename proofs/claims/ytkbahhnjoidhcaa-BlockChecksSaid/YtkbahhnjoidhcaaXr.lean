/- Rows of one's own of which only the kind of each cell is known; what is turned in place. -/
import Derived.Test.YtkbahhnjoidhcaaXl
import Derived.Test.YtkbahhnjoidhcaaXn
namespace Go.Proofs.Ytkbahhnjoidhcaa
set_option linter.unusedVariables false
set_option linter.unusedSimpArgs false
open Go.RowKit

/-- Either of two may come up, none of them the last. -/
theorem pf_two {P : Program} {ops : Array Oper} {S : World → Prop} {F : Nat → Bool} {K : Act → World → Prop} {i j fuel : Nat} {oi oj : Oper} {listed : Array Bool} {a : Act} {w : World} (hi : ops[i]? = some oi) (hj : ops[j]? = some oj) (hr : Region.ready .any ops listed = [i, j])
    (h1 : wpList P ops (Exit.then (fun a' w' => S w' ∧ wpAnyF P ops (PQ K) S F fuel (listed.setIfInBounds i true) a' w') noExit) [oi] a w)
    (h2 : wpList P ops (Exit.then (fun a' w' => S w' ∧ wpAnyF P ops (PQ K) S F fuel (listed.setIfInBounds j true) a' w') noExit) [oj] a w) : wpAnyF P ops (PQ K) S F (fuel + 1) listed a w := by
  refine ⟨fun h0 => absurd (hr ▸ h0) (by simp), fun k hk => ?_⟩
  rw [hr] at hk
  simp only [List.mem_cons, List.not_mem_nil, or_false] at hk
  rcases hk with rfl | rfl
  · exact wpOp_mono (fun a' w' h' => ⟨fun _ => h'.1, h'.2⟩) (pf_op hi h1)
  · exact wpOp_mono (fun a' w' h' => ⟨fun _ => h'.1, h'.2⟩) (pf_op hj h2)

theorem own_type {w : World} {base base' : Nat} {e e' : TypeId} {s s' : Nat} {v v' : Value} {n n' : Nat} {xs xs' : List Value} (h : w.ownsRow base e s v n xs) (h' : w.ownsRow base' e' s' v' n' xs') (he : e ≠ e') {g : Nat} (hg : v.ownBlock = some g) : v'.ownBlock ≠ some g := by
  rcases h.2 with ⟨rfl, _⟩ | ⟨g1, cap, cur, rfl, hb, hh, r⟩
  · cases hg
  · rcases h'.2 with ⟨rfl, _⟩ | ⟨g2, cap', cur', rfl, hb', hh', r'⟩
    · intro h2; cases h2
    · intro h2
      have e1 : g1 = g := by simpa [Value.ownBlock] using hg
      have e2 : g2 = g := by simpa [Value.ownBlock] using h2
      subst e1
      subst e2
      rw [hh] at hh'
      simp only [Option.some.injEq, Obj.cells.injEq] at hh'
      exact he hh'.2.1

/-- A row of one's own, its cells such as ok says. -/
def Wk (ok : Nat → Value → Prop) (base : Nat) (e : TypeId) (size : Nat) (w : World) (v : Value) (n : Nat) : Prop := ∃ xs : List Value, w.ownsRow base e size v n xs ∧ ∀ j u, xs[j]? = some u → ok j u

theorem Wk.slice {ok : Nat → Value → Prop} {base : Nat} {e : TypeId} {size : Nat} {w : World} {v : Value} {n : Nat} (h : Wk ok base e size w v n) : ∃ a c, v = .slice a n c := by
  obtain ⟨xs, h1, _⟩ := h
  exact (Rd.of_own h1).slice

theorem Wk.at {ok : Nat → Value → Prop} {base : Nat} {e : TypeId} {size : Nat} {w : World} {v : Value} {n : Nat} (h : Wk ok base e size w v n) (h0 : 0 < n) : ∃ g c, v = .slice (some ⟨g, 0, none⟩) n c ∧ (∀ j, w.frozen? ⟨g, j, none⟩ = false) ∧ base ≤ g ∧ ∀ j, j < n * size → ∃ u, w.cell? ⟨g, j, none⟩ = some u ∧ ok j u := by
  obtain ⟨xs, h1, h2⟩ := h
  obtain ⟨g, c, rfl, hf, hb⟩ := own_at h1 h0
  refine ⟨g, c, rfl, hf, hb, fun j hj => ?_⟩
  have hl : xs.length = n * size := h1.1
  obtain ⟨u, hu⟩ : ∃ u, xs[j]? = some u := ⟨_, List.getElem?_eq_getElem (by omega)⟩
  refine ⟨u, ?_, h2 j u hu⟩
  rcases (Rd.of_own h1).2 with ⟨he, _⟩ | ⟨ad, c', he, _, _, hc⟩
  · cases he
  · simp only [Value.slice.injEq, Option.some.injEq] at he
    obtain ⟨rfl, _, _⟩ := he
    have := hc j u hu
    rwa [add_at, Nat.zero_add] at this

theorem Wk.only {ok : Nat → Value → Prop} {base : Nat} {e : TypeId} {size : Nat} {w w' : World} {v : Value} {n g : Nat} (h : Wk ok base e size w v n) (ho : Only g w w') (hne : v.ownBlock ≠ some g) : Wk ok base e size w' v n := by
  obtain ⟨xs, h1, h2⟩ := h
  exact ⟨xs, own_onlyT h1 ho hne, h2⟩

theorem Wk.set {ok : Nat → Value → Prop} {base : Nat} {e : TypeId} {size : Nat} {w : World} {n g c : Nat} (h : Wk ok base e size w (.slice (some ⟨g, 0, none⟩) n c) n) (j : Nat) (u : Value) (hu : ok j u) : Wk ok base e size (w.setCell ⟨g, j, none⟩ u) (.slice (some ⟨g, 0, none⟩) n c) n := by
  obtain ⟨xs, h1, h2⟩ := h
  refine ⟨_, own_setCell h1 j u, fun i z hz => ?_⟩
  rw [List.getElem?_set] at hz
  split at hz
  · rename_i hij
    subst hij
    split at hz
    · simp at hz; subst hz; exact hu
    · cases hz
  · exact h2 i z hz

theorem Wk.fresh {ok : Nat → Value → Prop} {base : Nat} {e : TypeId} {size : Nat} {w w' : World} {v : Value} {n : Nat} (h : Wk ok base e size w v n) (hb : Below w.heap.size w w') : Wk ok base e size w' v n := by
  obtain ⟨xs, h1, h2⟩ := h
  exact ⟨xs, own_fresh h1 hb, h2⟩

def okP (j : Nat) (u : Value) : Prop := ∃ z, u = .int .u8 z
def okI (j : Nat) (u : Value) : Prop := j % 34 = 32 → ∃ z, u = .int .u32 z
def okO (j : Nat) (u : Value) : Prop := j % 33 = 0 → ∃ z, u = .int .u64 z
def okT (us : List (Value × Value)) (j : Nat) (u : Value) : Prop := (j % 3 = 2 → ∃ z, u = .int .u64 z) ∧ ∀ t, us[j / 3]? = some t → (j % 3 = 0 → u = t.1) ∧ (j % 3 = 1 → u = t.2)

/-- No two of these lie in one block. -/
def Dis (us : List (Value × Value)) : Prop := ∀ (i j : Nat) (p q : Value × Value), us[i]? = some p → us[j]? = some q → i ≠ j → ∀ b, (p.1.ownBlock = some b → q.1.ownBlock ≠ some b) ∧ (p.2.ownBlock = some b → q.2.ownBlock ≠ some b)

theorem Dis.nil : Dis [] := fun i j p q h => by simp at h

theorem Dis.snoc {us : List (Value × Value)} {p : Value × Value} (h : Dis us) (hp : ∀ (i : Nat) (q : Value × Value), us[i]? = some q → ∀ b, (q.1.ownBlock = some b → p.1.ownBlock ≠ some b) ∧ (q.2.ownBlock = some b → p.2.ownBlock ≠ some b)) : Dis (us ++ [p]) := by
  intro i j x y hx hy hij b
  rcases Nat.lt_or_ge i us.length with hi | hi
  · rw [List.getElem?_append_left hi] at hx
    rcases Nat.lt_or_ge j us.length with hj | hj
    · rw [List.getElem?_append_left hj] at hy
      exact h i j x y hx hy hij b
    · rw [List.getElem?_append_right hj] at hy
      have : j - us.length = 0 := by have := (List.getElem?_eq_some_iff.1 hy).1; simp at this; omega
      rw [this] at hy
      simp at hy
      subst hy
      exact hp i x hx b
  · rw [List.getElem?_append_right hi] at hx
    have h0 : i - us.length = 0 := by have := (List.getElem?_eq_some_iff.1 hx).1; simp at this; omega
    rw [h0] at hx
    simp at hx
    subst hx
    rcases Nat.lt_or_ge j us.length with hj | hj
    · rw [List.getElem?_append_left hj] at hy
      exact ⟨fun e1 e2 => (hp j y hy b).1 e2 e1, fun e1 e2 => (hp j y hy b).2 e2 e1⟩
    · rw [List.getElem?_append_right hj] at hy
      have : j - us.length = 0 := by have := (List.getElem?_eq_some_iff.1 hy).1; simp at this; omega
      omega

def WkI (base : Nat) (w : World) (v : Value) : Prop := ∃ n, Wk okI base 44 34 w v n
def WkO (base : Nat) (w : World) (v : Value) : Prop := ∃ n, Wk okO base 46 33 w v n

/-- Transactions of one's own, that may be turned. -/
def WkT (us : List (Value × Value)) (base : Nat) (w : World) (v : Value) (n : Nat) : Prop := us.length = n ∧ Wk (okT us) base 37 3 w v n ∧ (∀ (i : Nat) (u : Value × Value), us[i]? = some u → WkI base w u.1 ∧ WkO base w u.2) ∧ Dis us

theorem WkI.only {base g : Nat} {w w' : World} {v : Value} (h : WkI base w v) (ho : Only g w w') (hne : v.ownBlock ≠ some g) : WkI base w' v := by
  obtain ⟨n, h⟩ := h
  exact ⟨n, h.only ho hne⟩
theorem WkO.only {base g : Nat} {w w' : World} {v : Value} (h : WkO base w v) (ho : Only g w w') (hne : v.ownBlock ≠ some g) : WkO base w' v := by
  obtain ⟨n, h⟩ := h
  exact ⟨n, h.only ho hne⟩

theorem tI : 44 ≠ 37 := by decide
theorem tO : 46 ≠ 37 := by decide
theorem tIO : 44 ≠ 46 := by decide

theorem WkT.fresh {us : List (Value × Value)} {base n : Nat} {w w' : World} {v : Value} (h : WkT us base w v n) (hb : Below w.heap.size w w') : WkT us base w' v n := by
  obtain ⟨h1, h2, h3, h4⟩ := h
  refine ⟨h1, h2.fresh hb, fun i u hu => ?_, h4⟩
  obtain ⟨⟨n1, e1⟩, ⟨n2, e2⟩⟩ := h3 i u hu
  exact ⟨⟨n1, e1.fresh hb⟩, ⟨n2, e2.fresh hb⟩⟩

theorem WkT.setT {us : List (Value × Value)} {base n g c : Nat} {w : World} (h : WkT us base w (.slice (some ⟨g, 0, none⟩) n c) n) (i : Nat) (z : Int) : WkT us base (w.setCell ⟨g, i * 3 + 2, none⟩ (.int .u64 z)) (.slice (some ⟨g, 0, none⟩) n c) n := by
  obtain ⟨h1, h2, h3, h4⟩ := h
  refine ⟨h1, h2.set _ _ ⟨fun _ => ⟨_, rfl⟩, fun t _ => ⟨fun h => by omega, fun h => by omega⟩⟩, fun j u hu => ?_, h4⟩
  obtain ⟨⟨n1, e1⟩, ⟨n2, e2⟩⟩ := h3 j u hu
  obtain ⟨x2, q2, _⟩ := h2
  obtain ⟨x3, q3, _⟩ := e1
  obtain ⟨x4, q4, _⟩ := e2
  refine ⟨WkI.only ⟨n1, ⟨x3, q3, by assumption⟩⟩ (Only.setCell w g _ _) ?_, WkO.only ⟨n2, ⟨x4, q4, by assumption⟩⟩ (Only.setCell w g _ _) ?_⟩
  · exact own_type q2 q3 tI.symm rfl
  · exact own_type q2 q4 tO.symm rfl

theorem WkT.setI {us : List (Value × Value)} {base n g m c i : Nat} {w : World} {v : Value} {u : Value × Value} (h : WkT us base w v n) (hu : us[i]? = some u) (he : u.1 = .slice (some ⟨g, 0, none⟩) m c) (k : Nat) (z : Int) : WkT us base (w.setCell ⟨g, k * 34 + 32, none⟩ (.int .u32 z)) v n := by
  obtain ⟨h1, h2, h3, h4⟩ := h
  have ho := Only.setCell w g (k * 34 + 32) (.int .u32 z)
  have hI := (h3 i u hu).1
  rw [he] at hI
  obtain ⟨m', hI⟩ := hI
  have hm : m' = m := by
    obtain ⟨_, _, e⟩ := hI.slice
    simp only [Value.slice.injEq] at e
    exact e.2.1.symm
  subst hm
  obtain ⟨x1, q1, r1⟩ := hI
  obtain ⟨x2, q2, r2⟩ := h2
  refine ⟨h1, Wk.only ⟨x2, q2, r2⟩ ho (own_type q1 q2 tI rfl), fun j p hp => ?_, h4⟩
  obtain ⟨e1, ⟨n2, ⟨x4, q4, r4⟩⟩⟩ := h3 j p hp
  refine ⟨?_, WkO.only ⟨n2, x4, q4, r4⟩ ho (own_type q1 q4 tIO rfl)⟩
  by_cases hij : i = j
  · subst hij
    rw [hu] at hp
    cases hp
    rw [he]
    exact ⟨m', Wk.set ⟨x1, q1, r1⟩ _ _ (fun _ => ⟨_, rfl⟩)⟩
  · exact e1.only ho (((h4 i j u p hu hp hij g).1 (by rw [he]; rfl)))

theorem WkT.setO {us : List (Value × Value)} {base n g m c i : Nat} {w : World} {v : Value} {u : Value × Value} (h : WkT us base w v n) (hu : us[i]? = some u) (he : u.2 = .slice (some ⟨g, 0, none⟩) m c) (k : Nat) (z : Int) : WkT us base (w.setCell ⟨g, k * 33, none⟩ (.int .u64 z)) v n := by
  obtain ⟨h1, h2, h3, h4⟩ := h
  have ho := Only.setCell w g (k * 33) (.int .u64 z)
  have hO := (h3 i u hu).2
  rw [he] at hO
  obtain ⟨m', hO⟩ := hO
  have hm : m' = m := by
    obtain ⟨_, _, e⟩ := hO.slice
    simp only [Value.slice.injEq] at e
    exact e.2.1.symm
  subst hm
  obtain ⟨x1, q1, r1⟩ := hO
  obtain ⟨x2, q2, r2⟩ := h2
  refine ⟨h1, Wk.only ⟨x2, q2, r2⟩ ho (own_type q1 q2 tO rfl), fun j p hp => ?_, h4⟩
  obtain ⟨⟨n2, ⟨x4, q4, r4⟩⟩, e1⟩ := h3 j p hp
  refine ⟨WkI.only ⟨n2, x4, q4, r4⟩ ho (own_type q1 q4 tIO.symm rfl), ?_⟩
  by_cases hij : i = j
  · subst hij
    rw [hu] at hp
    cases hp
    rw [he]
    exact ⟨m', Wk.set ⟨x1, q1, r1⟩ _ _ (fun _ => ⟨_, rfl⟩)⟩
  · exact e1.only ho (((h4 i j u p hu hp hij g).2 (by rw [he]; rfl)))

/-- Inputs of one's own, whose witnesses are those of another world. -/
def OwI (w0 : World) (F : Nat → Prop) (base : Nat) (w : World) (v : Value) (l : List InD) : Prop := ∃ vs : List Value, vs.length = l.length ∧ w.ownsRow base 44 34 v l.length ((l.zip vs).flatMap inC) ∧ ∀ (i : Nat) (x : InD) (u : Value), l[i]? = some x → vs[i]? = some u → RdF F w0 1 u x.wit.length (bvs x.wit)
def OwO (base : Nat) (w : World) (v : Value) (l : List OutD) : Prop := w.ownsRow base 46 33 v l.length (l.flatMap outC)

/-- Transactions of one's own. -/
def OwT (w0 : World) (F : Nat → Prop) (us : List (Value × Value)) (base : Nat) (w : World) (v : Value) (l : List TxD) : Prop := us.length = l.length ∧ w.ownsRow base 37 3 v l.length ((l.zip us).flatMap txC) ∧ (∀ (i : Nat) (x : TxD) (u : Value × Value), l[i]? = some x → us[i]? = some u → OwI w0 F base w u.1 x.ins ∧ OwO base w u.2 x.outs) ∧ Dis us

theorem flat_at {α : Type} (f : α → List Value) (s : Nat) (l : List α) (hf : ∀ x ∈ l, (f x).length = s) (h0 : 0 < s) {j : Nat} {u : Value} (hj : (l.flatMap f)[j]? = some u) : ∃ x, l[j / s]? = some x ∧ (f x)[j % s]? = some u := by
  have hl := (List.getElem?_eq_some_iff.1 hj).1
  rw [flat_length f s l hf] at hl
  have hd : j / s < l.length := Nat.div_lt_of_lt_mul (by rw [Nat.mul_comm]; exact hl)
  obtain ⟨x, hx⟩ : ∃ x, l[j / s]? = some x := ⟨_, List.getElem?_eq_getElem hd⟩
  refine ⟨x, hx, ?_⟩
  have hlen := hf x (List.mem_of_getElem? hx)
  obtain ⟨v, hv⟩ : ∃ v, (f x)[j % s]? = some v := ⟨_, List.getElem?_eq_getElem (by rw [hlen]; exact Nat.mod_lt _ h0)⟩
  have := flat_get f s l hf hx _ v hv
  rw [show j / s * s + j % s = j by rw [Nat.mul_comm]; exact Nat.div_add_mod j s, hj] at this
  cases this
  exact hv

theorem OwI.wk {w0 w : World} {F : Nat → Prop} {base : Nat} {v : Value} {l : List InD} (h : OwI w0 F base w v l) (hok : ∀ x ∈ l, InOk x) : WkI base w v := by
  obtain ⟨vs, h1, h2, h3⟩ := h
  refine ⟨_, _, h2, fun j u hu hj => ?_⟩
  obtain ⟨⟨x, t⟩, hx, hxu⟩ := flat_at inC 34 _ (fun z hz => inC_length (hok _ (List.of_mem_zip hz).1)) (by decide) hu
  have hi : x.id.length = 32 := hok x (List.of_mem_zip (List.mem_of_getElem? hx)).1
  rw [hj] at hxu
  unfold inC at hxu
  change (bvs x.id ++ [Value.int .u32 x.n, t])[32]? = some u at hxu
  rw [List.getElem?_append_right (by rw [bvs_length]; omega), bvs_length] at hxu
  simp only [hi] at hxu
  simp at hxu
  exact ⟨_, hxu.symm⟩

theorem OwO.wk {w : World} {base : Nat} {v : Value} {l : List OutD} (h : OwO base w v l) (hok : ∀ x ∈ l, OutOk x) : WkO base w v := by
  refine ⟨_, _, h, fun j u hu hj => ?_⟩
  obtain ⟨x, hx, hxu⟩ := flat_at outC 33 _ (fun z hz => outC_length (hok _ hz)) (by decide) hu
  rw [hj] at hxu
  simp [outC] at hxu
  exact ⟨_, hxu.symm⟩

theorem OwT.wk {w0 w : World} {F : Nat → Prop} {us : List (Value × Value)} {base : Nat} {v : Value} {l : List TxD} (h : OwT w0 F us base w v l) (hok : ∀ x ∈ l, (∀ y ∈ x.ins, InOk y) ∧ ∀ y ∈ x.outs, OutOk y) : WkT us base w v l.length := by
  obtain ⟨h1, h2, h3, h4⟩ := h
  refine ⟨h1, ⟨_, h2, fun j u hu => ?_⟩, fun i u hu => ?_, h4⟩
  · obtain ⟨⟨x, t⟩, hx, hxu⟩ := flat_at txC 3 _ (fun z _ => rfl) (by decide) hu
    rw [List.getElem?_zip_eq_some] at hx
    refine ⟨fun hj => ?_, fun p hp => ?_⟩
    · rw [hj] at hxu
      simp [txC] at hxu
      exact ⟨_, hxu.symm⟩
    · rw [hx.2] at hp
      cases hp
      refine ⟨fun hj => ?_, fun hj => ?_⟩
      · rw [hj] at hxu; simp [txC] at hxu; exact hxu.symm
      · rw [hj] at hxu; simp [txC] at hxu; exact hxu.symm
  · obtain ⟨x, hx⟩ : ∃ x, l[i]? = some x := ⟨_, List.getElem?_eq_getElem (by have := (List.getElem?_eq_some_iff.1 hu).1; omega)⟩
    have h5 := h3 i x u hx hu
    have h6 := hok x (List.mem_of_getElem? hx)
    exact ⟨h5.1.wk h6.1, h5.2.wk h6.2⟩

theorem OwT.txs {w0 w : World} {F : Nat → Prop} {us : List (Value × Value)} {base : Nat} {v : Value} {l : List TxD} (h : OwT w0 F us base w v l) (hb : Below w0.heap.size w0 w) (hok : ∀ x ∈ l, (∀ y ∈ x.ins, InOk y) ∧ ∀ y ∈ x.outs, OutOk y) : Txs (fun _ => True) w v l := by
  obtain ⟨h1, h2, h3, h4⟩ := h
  refine ⟨us, h1, ⟨Rd.of_own h2, fun _ _ => trivial⟩, fun i x u hx hu => ?_⟩
  have h6 := hok x (List.mem_of_getElem? hx)
  obtain ⟨⟨vs, q1, q2, q3⟩, h5⟩ := h3 i x u hx hu
  exact ⟨⟨vs, q1, h6.1, ⟨Rd.of_own q2, fun _ _ => trivial⟩, fun j y t hy ht => ((q3 j y t hy ht).fresh hb).mono (fun _ _ => trivial)⟩, h6.2, ⟨Rd.of_own h5, fun _ _ => trivial⟩⟩

theorem OwT.fresh {w0 w w' : World} {F : Nat → Prop} {us : List (Value × Value)} {base : Nat} {v : Value} {l : List TxD} (h : OwT w0 F us base w v l) (hb : Below w.heap.size w w') : OwT w0 F us base w' v l := by
  obtain ⟨h1, h2, h3, h4⟩ := h
  refine ⟨h1, own_fresh h2 hb, fun i x u hx hu => ?_, h4⟩
  obtain ⟨⟨vs, q1, q2, q3⟩, h5⟩ := h3 i x u hx hu
  exact ⟨⟨vs, q1, own_fresh q2 hb, q3⟩, own_fresh h5 hb⟩

end Go.Proofs.Ytkbahhnjoidhcaa
