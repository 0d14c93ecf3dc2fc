/- A row of bytes of one's own that is seen from a place on, and what is put behind it. -/
import Derived.Test.YtbabjepblakboaaSs
import Derived.ArgAppend
namespace Go.Proofs.Ytbabjepblakboaa
set_option linter.unusedVariables false
set_option linter.unusedSimpArgs false
open Go.RowKit

/-- The value v shows the bytes l in a block of one's own, from base on. -/
def Vw (w : World) (base : Nat) (v : Value) (l : List UInt8) : Prop :=
  (v = .slice none 0 0 ∧ l = []) ∨ ∃ g off c, v = .slice (some ⟨g, off, none⟩) l.length c ∧ base ≤ g ∧ l.length ≤ c ∧ c ≤ maxLen ∧
    (∀ j x, l[j]? = some x → w.cell? ⟨g, off + j, none⟩ = some (bv x)) ∧ ∀ j, j < c → (w.cell? ⟨g, off + j, none⟩).isSome = true ∧ w.frozen? ⟨g, off + j, none⟩ = false

theorem Vw.nil (w : World) (base : Nat) : Vw w base (.slice none 0 0) [] := .inl ⟨rfl, rfl⟩

theorem Vw.slice {w : World} {base : Nat} {v : Value} {l : List UInt8} (h : Vw w base v l) : ∃ a c, v = .slice a l.length c := by
  rcases h with ⟨rfl, rfl⟩ | ⟨g, off, c, rfl, _⟩
  · exact ⟨none, 0, rfl⟩
  · exact ⟨_, c, rfl⟩

theorem Vw.rd {w : World} {base : Nat} {v : Value} {l : List UInt8} (h : Vw w base v l) : Rd w 1 v l.length (bvs l) := by
  rcases h with ⟨rfl, rfl⟩ | ⟨g, off, c, rfl, _, h1, h2, h3, _⟩
  · exact ⟨rfl, .inl ⟨rfl, rfl⟩⟩
  · refine ⟨by simp, .inr ⟨⟨g, off, none⟩, c, rfl, h1, h2, fun j u hj => ?_⟩⟩
    simp only [bvs, List.getElem?_map] at hj
    cases hx : l[j]? with
    | none => rw [hx] at hj; cases hj
    | some x =>
      rw [hx] at hj
      cases hj
      rw [add_at]
      exact h3 j x hx

theorem Vw.of_own {w : World} {base base' : Nat} {e : TypeId} {v : Value} {l : List UInt8} (h : w.ownsRow base' e 1 v l.length (bvs l)) (hb : base ≤ base') : Vw w base v l := by
  rcases h.2 with ⟨rfl, h0⟩ | ⟨g, cap, cur, rfl, hbg, hg, hnc, hcm, hcs, htake⟩
  · exact .inl ⟨rfl, List.eq_nil_of_length_eq_zero h0⟩
  · refine .inr ⟨g, 0, cap, rfl, by omega, hnc, hcm, fun j x hx => ?_, fun j hj => ?_⟩
    · have h1 : (bvs l)[j]? = some (bv x) := by simp [bvs, hx]
      rw [← htake, List.getElem?_take] at h1
      split at h1
      · simp [World.cell?, hg]
        simpa using h1
      · cases h1
    · have hj' : j < cur.size := by omega
      constructor
      · simp [World.cell?, hg, hj']
      · simp [World.frozen?, hg]

theorem Only.setCell (w : World) (g o : Nat) (v : Value) : Only g w (w.setCell ⟨g, o, none⟩ v) :=
  have b : Below g w (w.setCell ⟨g, o, none⟩ v) := (Below.refl g w).setCell (Nat.le_refl _) v
  ⟨b.os, b.tape, b.output, by simp, fun k hk => heap_setCell_other _ _ _ _ hk⟩

theorem Vw.only {w w' : World} {base g : Nat} {v : Value} {l : List UInt8} (h : Vw w base v l) (ho : Only g w w') (hg : g < base) : Vw w' base v l := by
  rcases h with h | ⟨b, off, c, rfl, hb, h1, h2, h3, h4⟩
  · exact .inl h
  · have hbk := ho.block b (by omega)
    refine .inr ⟨b, off, c, rfl, hb, h1, h2, fun j x hx => ?_, fun j hj => ?_⟩
    · rw [World.cell?_of_block (w := w) (by exact hbk)]
      exact h3 j x hx
    · have hc : w'.cell? ⟨b, off + j, none⟩ = w.cell? ⟨b, off + j, none⟩ := World.cell?_of_block (w := w) (by exact hbk)
      have hf : w'.frozen? ⟨b, off + j, none⟩ = w.frozen? ⟨b, off + j, none⟩ := by simp only [World.frozen?, hbk]
      rw [hc, hf]
      exact h4 j hj

theorem Vw.fresh {w w' : World} {base : Nat} {v : Value} {l : List UInt8} (h : Vw w base v l) (hb : Below w.heap.size w w') : Vw w' base v l := by
  rcases h with h | ⟨b, off, c, rfl, hbb, h1, h2, h3, h4⟩
  · exact .inl h
  · rcases Nat.eq_zero_or_pos c with hc0 | hc0
    · exact .inr ⟨b, off, c, rfl, hbb, h1, h2, fun j x hx => by have := (List.getElem?_eq_some_iff.1 hx).1; omega, fun j hj => by omega⟩
    · have h5 := (h4 0 hc0).1
      obtain ⟨u, hu⟩ := Option.isSome_iff_exists.1 h5
      have hlt : b < w.heap.size := block_lt_of_cell hu
      have hbk := hb.block b hlt
      refine .inr ⟨b, off, c, rfl, hbb, h1, h2, fun j x hx => ?_, fun j hj => ?_⟩
      · rw [World.cell?_of_block (w := w) (by exact hbk)]
        exact h3 j x hx
      · have hc : w'.cell? ⟨b, off + j, none⟩ = w.cell? ⟨b, off + j, none⟩ := World.cell?_of_block (w := w) (by exact hbk)
        have hf : w'.frozen? ⟨b, off + j, none⟩ = w.frozen? ⟨b, off + j, none⟩ := by simp only [World.frozen?, hbk]
        rw [hc, hf]
        exact h4 j hj

/-- The first n bytes are passed over. -/
theorem Vw.drop {w : World} {base g off c : Nat} {l : List UInt8} (h : Vw w base (.slice (some ⟨g, off, none⟩) l.length c) l) (n : Nat) (hn : n ≤ l.length) :
    Vw w base (.slice (some ⟨g, off + n, none⟩) (l.length - n) (c - n)) (l.drop n) := by
  rcases h with ⟨h, _⟩ | ⟨b, o, c', he, hb, h1, h2, h3, h4⟩
  · simp at h
  · simp only [Value.slice.injEq, Option.some.injEq, Addr.mk.injEq, and_true, true_and] at he
    obtain ⟨⟨rfl, rfl⟩, rfl⟩ := he
    refine .inr ⟨g, off + n, c - n, by simp, hb, by simp; omega, by omega, fun j x hx => ?_, fun j hj => ?_⟩
    · rw [Nat.add_assoc]
      exact h3 (n + j) x (by simpa using hx)
    · rw [Nat.add_assoc]
      exact h4 (n + j) (by omega)

theorem below_setCells {B : Nat} {w : World} (b : Nat) (hb : B ≤ b) : ∀ (vs : List Value) (o : Nat) (u : World), Below B w u → Below B w (u.setCells b o vs)
  | [], _, _, h => h
  | v :: r, o, u, h => below_setCells b hb r (o + 1) _ (h.setCell hb v)

theorem run_append_vw {P : Program} (w : World) (base : Nat) (t ty e : TypeId) (i : TypeInfo) (ht : P.underlying t = some (.slice e)) (hi : P.info? e = some i) (hz : i.zero = some (.int .u8 0))
    (hsize : i.size = 1) (hby : i.bytes = 1) (v : Value) (l : List UInt8) (hv : Vw w base v l) (v2 : Value) (ys : List UInt8) (hrd : Rd w 1 v2 ys.length (bvs ys))
    (hlen : l.length + ys.length ≤ 140737488355328) (hbase : base ≤ w.heap.size) :
    ∃ v' w', (Builtin.append_ #[t, t] ty #[v, v2]).run P w = .ok v' w' ∧ Vw w' base v' (l ++ ys) ∧ Below base w w' := by
  have hmx : l.length + ys.length ≤ maxLen := by unfold maxLen; omega
  rcases hv with ⟨rfl, rfl⟩ | ⟨g, off, c, rfl, hbg, hlc, hcm, hcell, hall⟩
  · obtain ⟨v', w', hr, hown, hgr, _, _⟩ := run_append_rd (P := P) w base t ty e i _ 1 1 ht hi hz hsize hby rfl (by decide) (.slice none 0 0) 0 [] (World.ownsRow_nil _ _ _ _) v2 ys.length (bvs ys) hrd (bvs_one _) (by simpa using hmx) (by simpa using hlen) hbase
    refine ⟨v', w', hr, Vw.of_own (e := e) (base' := base) (by simpa using hown) (Nat.le_refl _), Below.grown (Below.refl _ w) hgr hbase (by simp [Value.ownBlock])⟩
  · obtain ⟨_, ⟨rfl, h0⟩ | ⟨ad, c2, rfl, hmc, hc2, hcell2⟩⟩ := hrd
    · have hy : ys = [] := List.eq_nil_of_length_eq_zero h0
      subst hy
      refine ⟨.slice (some ⟨g, off, none⟩) l.length c, w, ?_, ?_, Below.refl _ _⟩
      · simp [Builtin.append_, run_underlying ht, sizeOf, typeInfo, hi, Builtin.lenOf, Builtin.firstCells, hlc, storeCells]
      · rw [List.append_nil]
        exact .inr ⟨g, off, c, rfl, hbg, hlc, hcm, hcell, hall⟩
    · by_cases hroom : l.length + ys.length ≤ c
      · have hn : (bvs ys).length = ys.length * i.size := by rw [hsize]; simp
        have hr := run_append_room_cells (P := P) w t ty e i ht hi g off l.length c ad ys.length c2 (bvs ys) hn hcell2 (bvs_one _) hroom
          (fun j hj => by rw [hsize, Nat.mul_one, Nat.add_assoc]; exact (hall _ (by simp at hj; omega)).1) (fun j hj => by rw [hsize, Nat.mul_one, Nat.add_assoc]; exact (hall _ (by simp at hj; omega)).2)
        rw [hsize, Nat.mul_one] at hr
        have hsome : ∀ j, j < (bvs ys).length → (w.cell? ⟨g, off + l.length + j, none⟩).isSome = true := fun j hj => by rw [Nat.add_assoc]; exact (hall _ (by simp at hj; omega)).1
        refine ⟨_, _, hr, .inr ⟨g, off, c, by simp, hbg, by simpa using hroom, hcm, fun j x hx => ?_, fun j hj => ⟨?_, ?_⟩⟩, below_setCells g hbg _ _ _ (Below.refl _ w)⟩
        · rcases Nat.lt_or_ge j l.length with h | h
          · rw [List.getElem?_append_left h] at hx
            rw [World.cell?_setCells_out g _ _ _ _ (fun _ _ => Or.inl (by simp; omega))]
            exact hcell j x hx
          · rw [List.getElem?_append_right h] at hx
            have hj' : j - l.length < (bvs ys).length := by
              have := (List.getElem?_eq_some_iff.1 hx).1
              simpa using this
            have h1 := World.cell?_setCells_in g (bvs ys) (off + l.length) w hsome (j - l.length) hj'
            rw [show off + l.length + (j - l.length) = off + j by omega] at h1
            rw [h1]
            have h2 : (bvs ys)[j - l.length]? = some (bv x) := by simp [bvs, hx]
            rw [List.getElem?_eq_getElem hj'] at h2
            exact h2
        · rcases Nat.lt_or_ge j l.length with h | h
          · rw [World.cell?_setCells_out g _ _ _ _ (fun _ _ => Or.inl (by simp; omega))]
            exact (hall j hj).1
          · rcases Nat.lt_or_ge (j - l.length) (bvs ys).length with h' | h'
            · have h1 := World.cell?_setCells_in g (bvs ys) (off + l.length) w hsome (j - l.length) h'
              rw [show off + l.length + (j - l.length) = off + j by omega] at h1
              rw [h1]; rfl
            · rw [World.cell?_setCells_out g _ _ _ _ (fun _ _ => Or.inr (by simp at h' ⊢; omega))]
              exact (hall j hj).1
        · rw [World.frozen?_setCells]
          exact (hall j hj).2
      · obtain ⟨v', w', hr, hown, hgr⟩ := run_append_arg_grows (P := P) w t ty e i _ 1 1 ht hi hz hsize hby rfl (by decide) ⟨g, off, none⟩ l.length c (bvs l) (by simp)
          (fun j u hj => by
            simp only [bvs, List.getElem?_map] at hj
            cases hx : l[j]? with
            | none => rw [hx] at hj; cases hj
            | some x =>
              rw [hx] at hj
              cases hj
              rw [add_at]
              exact hcell j x hx) ad ys.length c2 (bvs ys) (by simp) hcell2 (by omega) hmx (by omega)
        refine ⟨v', w', hr, Vw.of_own (e := e) (base' := w.heap.size) (by simpa using hown) hbase, (Below.grown (Below.refl _ w) hgr (Nat.le_refl _) (by simp)).mono hbase⟩

theorem wpList_append_vw {P : Program} (w : World) {ops : Array Oper} {rest : List Oper} {o : Oper} {a : Act} {Q : Exit → Act → World → Prop} (hgd : o.guard = none) (s x : Operand) (t : TypeId)
    (ho : o.op = .call { callee := .builtin .append, args := #[s, x], argTypes := #[t, t] })
    (base : Nat) (e : TypeId) (i : TypeInfo) (ht : P.underlying t = some (.slice e)) (hi : P.info? e = some i) (hz : i.zero = some (.int .u8 0)) (hsize : i.size = 1) (hby : i.bytes = 1)
    (v : Value) (l : List UInt8) (hs : a.eval s = v) (hv : Vw w base v l) (v2 : Value) (ys : List UInt8) (hx : a.eval x = v2) (hrd : Rd w 1 v2 ys.length (bvs ys))
    (hlen : l.length + ys.length ≤ 140737488355328) (hbase : base ≤ w.heap.size)
    (h : ∀ v' w', Vw w' base v' (l ++ ys) → Below base w w' → wpList P ops Q rest (a.put o.dst v') w') : wpList P ops Q (o :: rest) a w := by
  refine wpList_plain hgd fun K hK => ?_
  obtain ⟨v', w', hr, h2, h3⟩ := run_append_vw (P := P) w base t o.type e i ht hi hz hsize hby v l hv v2 ys hrd hlen hbase
  unfold Oper.wp execOp
  simp only [ho, resolve, invoke, builtin, Sem.run_bind, Sem.run_pure, Result.andThen_ok, List.map_toArray, List.map_cons, List.map_nil, hs, hx, hr]
  exact hK _ _ (h v' w' h2 h3)
end Go.Proofs.Ytbabjepblakboaa
