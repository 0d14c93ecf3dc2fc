/- Laws over any program: whole structs and arrays read and stored; places where the walk stands still. -/
import Derived.Test.YtbabjepblakboaaKit
import Derived.Laws.Rows
import Derived.Laws.BytesArg
import Derived.Deep.QuietTactic
import Derived.BigQuiet
import Derived.Laws.CopyRow
namespace Go.Proofs.Ytbabjepblakboaa
set_option linter.unusedVariables false
set_option linter.unusedSimpArgs false
open Go.RowKit

theorem ret_bool {a b : Bool} (h : a = b) : Ending.returned (.bool a) = Ending.returned (.bool b) := by rw [h]
theorem ret_i {k : IntKind} {a b : Int} (h : a = b) : Ending.returned (.int k a) = Ending.returned (.int k b) := by rw [h]
theorem dec_iff {p q : Prop} [Decidable p] [Decidable q] (h : p ↔ q) : decide p = decide q := decide_eq_decide.2 h

theorem stopAt (n : Nat) {P : Program} {ops : Array Oper} {Q : Exit → Act → World → Prop} {op : Op} {ty : TypeId} {pos : String} {after : Array Edge} {g : Option (Nat × Bool)} {rest : List Oper} {a : Act} {w : World}
    (h : Stop (wpList P ops Q (⟨some n, op, ty, pos, after, g⟩ :: rest) a w)) : wpList P ops Q (⟨some n, op, ty, pos, after, g⟩ :: rest) a w := h

theorem stopStore (t : TypeId) {P : Program} {ops : Array Oper} {Q : Exit → Act → World → Prop} {x y : Operand} {ty : TypeId} {pos : String} {after : Array Edge} {g : Option (Nat × Bool)} {rest : List Oper} {a : Act} {w : World}
    (h : Stop (wpList P ops Q (⟨none, .store t x y, ty, pos, after, g⟩ :: rest) a w)) : wpList P ops Q (⟨none, .store t x y, ty, pos, after, g⟩ :: rest) a w := h

def isAggD (d : TypeDesc) : Bool := match d with | .struct _ | .array _ _ => true | _ => false

theorem run_isAgg_true {P : Program} {ty : TypeId} {d : TypeDesc} (w : World) (hu : P.underlying ty = some d) (hd : isAggD d = true) : (isAgg ty).run P w = .ok true w := by
  unfold isAgg
  rw [Sem.run_bind, run_underlying hu w]
  cases d <;> simp_all [isAggD]

theorem run_loadVar_agg {P : Program} (w : World) (ad : Addr) (ty : TypeId) (cs : List Value) (d : TypeDesc) (hc : ∀ j u, cs[j]? = some u → w.cell? (ad.add j) = some u)
    (hu : P.underlying ty = some d) (hd : isAggD d = true) (hi : (P.info? ty).map (·.size) = some cs.length) :
    (loadVar ty ad).run P w = .ok (.agg cs.toArray) w := by
  have hl := run_loadCells_list (P := P) w ad cs hc
  cases hq : P.info? ty with
  | none => simp [hq] at hi
  | some i =>
    have hs : i.size = cs.length := by simpa [hq] using hi
    simp [loadVar, Sem.run_bind, run_isAgg_true w hu hd, sizeOf, typeInfo, hq, hs, hl]

theorem wpList_load_agg {P : Program} {ops : Array Oper} {rest : List Oper} {o : Oper} {a : Act} {w : World} {Q : Exit → Act → World → Prop} (hgd : o.guard = none) (ty : TypeId) (x : Operand) (ho : o.op = .load ty x)
    (ad : Addr) (hx : a.eval x = .pointer (some ad)) (cs : List Value) (d : TypeDesc) (hc : ∀ j u, cs[j]? = some u → w.cell? (ad.add j) = some u)
    (hu : P.underlying ty = some d) (hd : isAggD d = true) (hi : (P.info? ty).map (·.size) = some cs.length)
    (h : wpList P ops Q rest (a.put o.dst (.agg cs.toArray)) w) : wpList P ops Q (o :: rest) a w := by
  refine wpList_plain hgd fun _ hK => ?_
  unfold Oper.wp execOp
  simp only [ho, hx, Instr.loadAt, Instr.sureAddr, Sem.run_bind, Sem.run_pure, Result.andThen_ok, run_loadVar_agg w ad ty cs d hc hu hd hi]
  exact hK _ _ h

theorem run_storeVar_agg {P : Program} (w : World) (g off : Nat) (ty t : TypeId) (cur : Array Value) (cs : List Value) (hg : w.heap[g]? = some (.cells cur t (0, 0)))
    (hfit : off + cs.length ≤ cur.size) (h1 : ∀ u ∈ cs, u.oneCell' = true) (hi : (P.info? ty).map (·.size) = some cs.length) :
    (storeVar ty ⟨g, off, none⟩ (.agg cs.toArray)).run P w = .ok () (w.setRow g (cur.toList.take off ++ cs ++ cur.toList.drop (off + cs.length)).toArray) := by
  have hst := run_storeCells_at P g off t cs 0 cur w hg (by simpa using hfit) h1
  simp only [Nat.add_zero] at hst
  cases hq : P.info? ty with
  | none => simp [hq] at hi
  | some i =>
    have hs : i.size = cs.length := by simpa [hq] using hi
    simp [storeVar, Value.cells, sizeOf, typeInfo, hq, hs, hst]

theorem wpList_store_agg {P : Program} {ops : Array Oper} {rest : List Oper} {o : Oper} {a : Act} {w : World} {Q : Exit → Act → World → Prop} (hgd : o.guard = none) (ty : TypeId) (x y : Operand) (ho : o.op = .store ty x y)
    (g off : Nat) (t : TypeId) (hx : a.eval x = .pointer (some ⟨g, off, none⟩)) (cur : Array Value) (cs : List Value) (hy : a.eval y = .agg cs.toArray) (hg : w.heap[g]? = some (.cells cur t (0, 0)))
    (hfit : off + cs.length ≤ cur.size) (h1 : ∀ u ∈ cs, u.oneCell' = true) (hi : (P.info? ty).map (·.size) = some cs.length)
    (h : wpList P ops Q rest (a.put o.dst undef) (w.setRow g (cur.toList.take off ++ cs ++ cur.toList.drop (off + cs.length)).toArray)) : wpList P ops Q (o :: rest) a w := by
  refine wpList_plain hgd fun _ hK => ?_
  unfold Oper.wp execOp
  simp only [ho, hx, hy, Instr.storeAt, Instr.sureAddr, Sem.run_bind, Sem.run_pure, Result.andThen_ok, run_storeVar_agg w g off ty t cur cs hg hfit h1 hi]
  exact hK _ _ h

theorem eqGuard_agg {P : Program} (w : World) (op : BinOp) (t : TypeId) (x y : Operand) (a b : Array Value) (h : P.eqGuardType P.depth t = false) : (eqGuard op t x y (.agg a) (.agg b)).run P w = .ok () w := by
  unfold eqGuard
  cases op <;> simp [Sem.run_bind, h]

theorem run_size_of {P : Program} {t : TypeId} {n : Nat} (h : (P.info? t).map (·.size) = some n) (w : World) : (sizeOf t).run P w = .ok n w := by
  cases hq : P.info? t with
  | none => simp [hq] at h
  | some i =>
    have : i.size = n := by simpa [hq] using h
    simp [sizeOf, typeInfo, hq, this]

theorem wpList_bin {P : Program} {ops : Array Oper} {rest : List Oper} {o : Oper} {a : Act} {w : World} {Q : Exit → Act → World → Prop} (hgd : o.guard = none) (op : BinOp) (t ty : TypeId) (x y : Operand) (ho : o.op = .binOp op t x y ty) (v : Value)
    (hg : (eqGuard op t x y (a.eval x) (a.eval y)).run P w = .ok () w) (hr : (binOp op t (a.eval x) (a.eval y)).run P w = .ok v w)
    (h : wpList P ops Q rest (a.put o.dst v) w) : wpList P ops Q (o :: rest) a w := by
  refine wpList_plain hgd fun _ hK => ?_
  unfold Oper.wp execOp
  simp only [ho, hg, hr, Sem.run_bind, Sem.run_pure, Result.andThen_ok]
  exact hK _ _ h

theorem wpList_bin_g {P : Program} {ops : Array Oper} {rest : List Oper} {o : Oper} {a : Act} {w : World} {Q : Exit → Act → World → Prop} (hw : Region.wanted o (yielded ops a.tmps) = true) (op : BinOp) (t ty : TypeId) (x y : Operand) (ho : o.op = .binOp op t x y ty) (v : Value)
    (hg : (eqGuard op t x y (a.eval x) (a.eval y)).run P w = .ok () w) (hr : (binOp op t (a.eval x) (a.eval y)).run P w = .ok v w)
    (h : wpList P ops Q rest (a.put o.dst v) w) : wpList P ops Q (o :: rest) a w := by
  unfold wpList
  rw [if_pos hw]
  left
  unfold Oper.wp execOp
  simp only [ho, hg, hr, Sem.run_bind, Sem.run_pure, Result.andThen_ok, Oper.upon_value]
  exact h

/-- From w to w' block g alone has turned. -/
structure Only (g : Nat) (w w' : World) : Prop where
  os : w'.os = w.os
  tape : w'.tape = w.tape
  output : w'.output = w.output
  size : w'.heap.size = w.heap.size
  block : ∀ k, k ≠ g → w'.heap[k]? = w.heap[k]?

theorem Below.only {B g : Nat} {a w w' : World} (h : Below B a w) (ho : Only g w w') (hg : B ≤ g) : Below B a w' :=
  ⟨ho.os.trans h.os, ho.tape.trans h.tape, ho.output.trans h.output, by rw [ho.size]; exact h.size, fun k hk => (ho.block k (by omega)).trans (h.block k hk)⟩

theorem Only.grown {g : Nat} {w w' : World} (h : Only g w w') : w.grownBy w' (some g) :=
  ⟨h.os, h.tape, h.output, by rw [h.size]; exact Nat.le_refl _, fun k _ hne => h.block k (fun e => hne (by rw [e]))⟩

theorem grown_newer {u v w : World} {r g : Nat} (h : u.grownBy v (some r)) (ho : Only g v w) (hg : u.heap.size ≤ g) : u.grownBy w (some r) :=
  ⟨ho.os.trans h.os, ho.tape.trans h.tape, ho.output.trans h.output, by rw [ho.size]; exact h.size, fun k hk hne => (ho.block k (by omega)).trans (h.block k hk hne)⟩

theorem BB.only {w w' : World} {e : TypeId} {g r : Nat} {L : List UInt8} (h : BB w e g L) (ho : Only r w w') (hne : g ≠ r) : BB w' e g L := by
  unfold BB
  rw [ho.block g hne]
  exact h

/-- A whole variable is stored into its block: the world behind it is told by what it holds. -/
theorem wpList_store_var {P : Program} {ops : Array Oper} {rest : List Oper} {o : Oper} {a : Act} {w : World} {Q : Exit → Act → World → Prop} (hgd : o.guard = none) (ty : TypeId) (x y : Operand) (ho : o.op = .store ty x y)
    (g : Nat) (t : TypeId) (hx : a.eval x = .pointer (some ⟨g, 0, none⟩)) (cur : Array Value) (cs : List Value) (hy : a.eval y = .agg cs.toArray) (hg : w.heap[g]? = some (.cells cur t (0, 0)))
    (hfit : cur.size = cs.length) (h1 : ∀ u ∈ cs, u.oneCell' = true) (hi : (P.info? ty).map (·.size) = some cs.length)
    (h : ∀ w', w'.heap[g]? = some (.cells cs.toArray t (0, 0)) → Only g w w' → wpList P ops Q rest (a.put o.dst undef) w') : wpList P ops Q (o :: rest) a w := by
  refine wpList_store_agg hgd ty x y ho g 0 t hx cur cs hy hg (by omega) h1 hi (h _ ?_ ⟨rfl, rfl, rfl, by simp, fun k hk => setRow_other _ _ _ _ hk⟩)
  rw [setRow_heap _ _ _ _ _ _ hg]
  have : List.drop (0 + cs.length) cur.toList = [] := by simp [hfit]
  rw [this]; simp

theorem Rd.conv {P : Program} {w : World} {v : Value} {l : List UInt8} (h : Rd w 1 v l.length (bvs l)) (src dst e : TypeId) (hs : P.underlying src = some (.slice e)) (he : P.underlying e = some (.int .u8)) (hd : P.underlying dst = some .string) :
    (convert src dst v).run P w = .ok (.string ⟨l.toArray⟩) w := by
  rcases h.2 with ⟨rfl, h0⟩ | ⟨ad, c, rfl, _, _, hcell⟩
  · have : l = [] := List.eq_nil_of_length_eq_zero h0
    subst this
    exact run_convert_bytes_nil w src e hs he 0 0 dst hd
  · have hl : (loadCells ad l.length).run P w = .ok ((l.map fun x => (x.toNat : Int)).map (Value.int .u8)).toArray w := by
      have := run_loadCells_list (P := P) w ad (bvs l) hcell
      rw [bvs_length] at this
      rw [this]
      simp [bvs, bv, Function.comp_def]
    rw [run_convert_bytes_string w src dst e _ _ c hs he hd, run_bytesToString w _ _ c _ hl, foldl_push_bytes]
    simp [ByteArray.empty, ByteArray.emptyWithCapacity, Function.comp_def]
    rfl

/-- copy(dst, src): dst is the whole of block g, which holds the bytes L; src reads ys. -/
theorem run_copy_all {P : Program} (w : World) (dT sT ty e : TypeId) (g c : Nat) (t : TypeId) (L ys : List UInt8) (v2 : Value) (m : Nat)
    (hu : P.underlying dT = some (.slice e)) (hsz : (P.info? e).map (·.size) = some 1) (hb : BB w t g L) (hr : Rd w 1 v2 m (bvs ys)) :
    ∃ w', (Builtin.copy_ #[dT, sT] ty #[.slice (some ⟨g, 0, none⟩) L.length c, v2]).run P w = .ok (goInt (Nat.min m L.length)) w' ∧ BB w' t g (ys.take L.length ++ L.drop (Nat.min m L.length)) ∧ Only g w w' := by
  have hm : ys.length = m := by simpa using hr.1
  rcases hr.2 with ⟨rfl, h0⟩ | ⟨ad, c2, rfl, _, _, hcell⟩
  · subst h0
    have : ys = [] := List.eq_nil_of_length_eq_zero hm
    subst this
    refine ⟨w, ?_, by simpa using hb, ⟨rfl, rfl, rfl, rfl, fun _ _ => rfl⟩⟩
    simpa using run_copy_nil (P := P) w dT sT ty e ⟨g, 0, none⟩ L.length c hu (by cases hq : P.info? e <;> simp_all)
  · have hlen : (bvs (ys.take L.length)).length = Nat.min m L.length := by
      simp only [bvs_length, List.length_take, hm]
      exact Nat.min_comm _ _
    have hrun := run_copy_row (P := P) w dT sT ty e g 0 L.length c ad m c2 (bvs L).toArray t (bvs (ys.take L.length)) hu hsz hb hlen (fun j u hj => hcell j u (by
      simp only [bvs, List.map_take, List.getElem?_take] at hj ⊢
      split at hj
      · exact hj
      · cases hj)) (by rw [hlen]; simp; exact Nat.min_le_right _ _) (bvs_one _)
    rw [hlen] at hrun
    refine ⟨_, hrun, ?_, ⟨rfl, rfl, rfl, by simp, fun k hk => setRow_other _ _ _ _ hk⟩⟩
    unfold BB
    rw [setRow_heap _ _ _ _ _ _ hb]
    simp [bvs, List.map_drop]

theorem step_copy_all {P : Program} {ops : Array Oper} {o : Oper} {a : Act} {w : World} {K : Act → World → Prop} {Q : Exit → Act → World → Prop} {E : Prop} (hgd : o.guard = none) (d s : Operand) (dT sT : TypeId)
    (ho : o.op = .call { callee := .builtin .copy, args := #[d, s], argTypes := #[dT, sT] }) (e : TypeId) (hu : P.underlying dT = some (.slice e)) (hsz : (P.info? e).map (·.size) = some 1)
    (g n c : Nat) (t : TypeId) (L ys : List UInt8) (v2 : Value) (m : Nat) (hn : L.length = n) (hd : a.eval d = .slice (some ⟨g, 0, none⟩) n c) (hs : a.eval s = v2) (hb : BB w t g L) (hr : Rd w 1 v2 m (bvs ys))
    (h : ∀ w', BB w' t g (ys.take n ++ L.drop (Nat.min m n)) → Only g w w' → K (a.put o.dst (goInt (Nat.min m n))) w') :
    if Region.wanted o (yielded ops a.tmps) = true then Oper.wp P o a w K Q else E := by
  have hw : Region.wanted o (yielded ops a.tmps) = true := by simp [Region.wanted, hgd]
  rw [if_pos hw]
  subst hn
  obtain ⟨w', hrun, h1, h2⟩ := run_copy_all (P := P) w dT sT o.type e g c t L ys v2 m hu hsz hb hr
  unfold Oper.wp
  simp [execOp, ho, resolve, invoke, builtin, hd, hs, hrun, Result.andThen]
  exact h _ h1 h2

theorem wpList_copy_all {P : Program} {ops : Array Oper} {rest : List Oper} {o : Oper} {a : Act} {w : World} {Q : Exit → Act → World → Prop} (hgd : o.guard = none) (d s : Operand) (dT sT : TypeId)
    (ho : o.op = .call { callee := .builtin .copy, args := #[d, s], argTypes := #[dT, sT] }) (e : TypeId) (hu : P.underlying dT = some (.slice e)) (hsz : (P.info? e).map (·.size) = some 1)
    (g n c : Nat) (t : TypeId) (L ys : List UInt8) (v2 : Value) (m : Nat) (hn : L.length = n) (hd : a.eval d = .slice (some ⟨g, 0, none⟩) n c) (hs : a.eval s = v2) (hb : BB w t g L) (hr : Rd w 1 v2 m (bvs ys))
    (h : ∀ w', BB w' t g (ys.take n ++ L.drop (Nat.min m n)) → Only g w w' → wpList P ops Q rest (a.put o.dst (goInt (Nat.min m n))) w') : wpList P ops Q (o :: rest) a w := by
  refine wpList_plain hgd fun K hK => ?_
  have := step_copy_all (P := P) (ops := ops) (K := K) (Q := Q) (E := False) hgd d s dT sT ho e hu hsz g n c t L ys v2 m hn hd hs hb hr (fun w' h1 h2 => hK _ _ (h w' h1 h2))
  rwa [if_pos (by simp [Region.wanted, hgd])] at this

/-- The elements of a slice: each element x at its place, as R says. -/
def Sl {α : Type} (R : World → Nat → Nat → α → Prop) (size : Nat) (w : World) (v : Value) (l : List α) : Prop :=
  (l = [] ∧ ∃ a c, v = .slice a 0 c) ∨ ∃ b off c, v = .slice (some ⟨b, off, none⟩) l.length c ∧ l.length ≤ c ∧ c ≤ maxLen ∧ ∀ i x, l[i]? = some x → R w b (off + i * size) x

/-- What R says stays where nothing old turns. -/
def Stays {α : Type} (R : World → Nat → Nat → α → Prop) : Prop := ∀ w w' b o x, Below w.heap.size w w' → R w b o x → R w' b o x

theorem Sl.fresh {α : Type} {R : World → Nat → Nat → α → Prop} (hs : Stays R) {size : Nat} {w w' : World} {v : Value} {l : List α} (h : Sl R size w v l) (hb : Below w.heap.size w w') : Sl R size w' v l := by
  rcases h with h | ⟨b, off, c, h1, h2, h3, h4⟩
  · exact .inl h
  · exact .inr ⟨b, off, c, h1, h2, h3, fun i x hx => hs _ _ _ _ _ hb (h4 i x hx)⟩

theorem Sl.slice {α : Type} {R : World → Nat → Nat → α → Prop} {size : Nat} {w : World} {v : Value} {l : List α} (h : Sl R size w v l) : ∃ a c, v = .slice a l.length c := by
  rcases h with ⟨rfl, a, c, rfl⟩ | ⟨b, off, c, h1, _⟩
  · exact ⟨a, c, rfl⟩
  · exact ⟨_, c, h1⟩

/-- The cells cs lie at block b from o on. -/
def At (w : World) (b o : Nat) (cs : List Value) : Prop := ∀ j u, cs[j]? = some u → w.cell? ⟨b, o + j, none⟩ = some u

theorem add_at (b o j : Nat) : (⟨b, o, none⟩ : Addr).add j = ⟨b, o + j, none⟩ := by unfold Addr.add; split <;> simp_all

theorem At.load {w : World} {b o : Nat} {cs : List Value} (h : At w b o cs) : ∀ j u, cs[j]? = some u → w.cell? ((⟨b, o, none⟩ : Addr).add j) = some u := by
  intro j u hj; rw [add_at]; exact h j u hj

theorem At.cell0' {w : World} {b o : Nat} {u : Value} {cs : List Value} (h : At w b o (u :: cs)) : w.cell? ⟨b, o, none⟩ = some u := h 0 u rfl

theorem At.fresh {w w' : World} {b o : Nat} {cs : List Value} (h : At w b o cs) (hb : Below w.heap.size w w') : At w' b o cs := by
  intro j u hj
  have h0 := h j u hj
  rw [hb.cell (p := ⟨b, o + j, none⟩) (block_lt_of_cell h0)]
  exact h0

theorem At.below {w w' : World} {B b o : Nat} {cs : List Value} (h : At w b o cs) (hb : Below B w w') (hB : b < B) : At w' b o cs := by
  intro j u hj
  rw [hb.cell (p := ⟨b, o + j, none⟩) hB]
  exact h j u hj

theorem At.block {w : World} {b : Nat} {cs : List Value} {t : TypeId} {fz : Nat × Nat} (h : w.heap[b]? = some (.cells cs.toArray t fz)) : At w b 0 cs := by
  intro j u hj
  simp [World.cell?, h, hj]

end Go.Proofs.Ytbabjepblakboaa
