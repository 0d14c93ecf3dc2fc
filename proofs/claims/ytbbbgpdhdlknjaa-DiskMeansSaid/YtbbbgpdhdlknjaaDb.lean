/- Disks: appends to views and to full slices; what a disk is, and how it lies in memory. -/
import Derived.Test.YtbbbgpdhdlknjaaDa
namespace Go.Proofs.Ytbbbgpdhdlknjaa
set_option linter.unusedVariables false
set_option linter.unusedSimpArgs false
open Go.RowKit

theorem CB.free {w : World} {e : TypeId} {g : Nat} {L : List Value} (h : CB w e g L) (k : Nat) : w.frozen? ⟨g, k, none⟩ = false := by
  unfold CB at h
  simp [World.frozen?, h]

theorem drop_take_laid (cur news : List Value) (off a b : Nat) (h : off + (a + b) ≤ cur.length) (hb : news.length = b) :
    ((cur.take (off + a) ++ news ++ cur.drop (off + a + news.length)).drop off).take (a + b) = (cur.drop off).take a ++ news := by
  rw [List.append_assoc, List.drop_append_of_le_length (by simp; omega), List.drop_take, show off + a - off = a by omega]
  rw [← List.append_assoc, List.take_append_of_le_length (by simp; omega), List.take_of_length_le (by simp; omega)]

theorem run_append_vs [Inhabited (Option Nat)] {P : Program} (w : World) (t ty e : TypeId) (i : TypeInfo) (z : Value) (size bytes : Nat) (ht : P.underlying t = some (.slice e)) (hi : P.info? e = some i) (hz : i.zero = some z)
    (hsize : i.size = size) (hby : i.bytes = bytes) (hzs : z.cells.size = size) (hsz : 0 < size) (v : Value) (n : Nat) (cs : List Value) (hv : VwS w e size v n cs) (v2 : Value) (m : Nat) (news : List Value) (hrd : Rd w size v2 m news)
    (h1 : ∀ u ∈ news, u.oneCell' = true) (h63 : n + m ≤ maxLen) (hbytes : (n + m) * bytes ≤ 140737488355328) :
    ∃ v' w', (Builtin.append_ #[t, t] ty #[v, v2]).run P w = .ok v' w' ∧ VwS w' e size v' (n + m) (cs ++ news) ∧ w.grownBy w' v.ownBlock ∧ Grew w v v' := by
  rcases hv with ⟨rfl, rfl, rfl⟩ | ⟨g, off, c, cur, rfl, hnc, hcm, hcb, hoc, hcl, hct⟩
  · obtain ⟨v', w', hr, hown, hgr, _, hg⟩ := run_append_rd (P := P) w w.heap.size t ty e i z size bytes ht hi hz hsize hby hzs hsz (.slice none 0 0) 0 [] (World.ownsRow_nil _ _ _ _) v2 m news hrd h1 h63 hbytes (Nat.le_refl _)
    exact ⟨v', w', hr, VwS.of_own hown, hgr, hg⟩
  · obtain ⟨hnl, ⟨rfl, rfl⟩ | ⟨ad, c2, rfl, hmc, hc2, hcell2⟩⟩ := hrd
    · have hy : news = [] := List.eq_nil_of_length_eq_zero (by simpa using hnl)
      subst hy
      refine ⟨.slice (some ⟨g, off, none⟩) n c, w, ?_, ?_, World.grownBy.refl _ _, fun k hk => .inl hk⟩
      · simp [Builtin.append_, run_underlying ht, sizeOf, typeInfo, hi, Builtin.lenOf, Builtin.firstCells, hnc, storeCells]
      · rw [List.append_nil]
        exact .inr ⟨g, off, c, cur, rfl, hnc, hcm, hcb, hoc, hcl, hct⟩
    · by_cases hroom : n + m ≤ c
      · have hfit : off + n * size + news.length ≤ cur.length := by
          have h2 : (n + m) * size ≤ c * size := Nat.mul_le_mul_right _ hroom
          rw [Nat.add_mul] at h2
          rw [hnl]
          omega
        have hsome : ∀ j, j < news.length → (w.cell? ⟨g, off + n * size + j, none⟩).isSome = true := fun j hj => by
          rw [hcb.cell (off + n * size + j) _ (List.getElem?_eq_getElem (by omega))]
          rfl
        have hr := run_append_room_cells (P := P) w t ty e i ht hi g off n c ad m c2 news (by rw [hsize]; exact hnl) hcell2 h1 hroom (fun j hj => by rw [hsize]; exact hsome j hj) (fun j hj => hcb.free _)
        rw [hsize] at hr
        obtain ⟨h2, o2⟩ := heap_setCells g e news (off + n * size) w cur hcb hfit
        refine ⟨_, _, hr, .inr ⟨g, off, c, _, rfl, hroom, hcm, h2, ?_, ?_, ?_⟩, o2.grown, fun k hk => .inl hk⟩
        · simp only [List.length_append, List.length_take, List.length_drop]
          omega
        · rw [List.length_append, hcl, hnl, Nat.add_mul]
        · rw [Nat.add_mul, drop_take_laid cur news off (n * size) (m * size) (by rw [hnl] at hfit; omega) hnl, hct]
      · obtain ⟨v', w', hr, hown, hgr⟩ := run_append_arg_grows (P := P) w t ty e i z size bytes ht hi hz hsize hby hzs hsz ⟨g, off, none⟩ n c cs hcl
          (fun j u hj => by
            rw [add_at]
            refine hcb.cell _ _ ?_
            rw [← hct, List.getElem?_take] at hj
            split at hj
            · rwa [List.getElem?_drop] at hj
            · cases hj) ad m c2 news hnl hcell2 (by omega) h63 hbytes
        refine ⟨v', w', hr, VwS.of_own hown, ⟨hgr.os, hgr.tape, hgr.output, hgr.size, fun k hk _ => hgr.block k hk (by simp)⟩, fun k hk => .inr (hown.lt k hk).1⟩

theorem wpList_append_vs [Inhabited (Option Nat)] {P : Program} (w : World) {ops : Array Oper} {rest : List Oper} {o : Oper} {a : Act} {Q : Exit → Act → World → Prop} (hgd : o.guard = none) (s x : Operand) (t : TypeId)
    (ho : o.op = .call { callee := .builtin .append, args := #[s, x], argTypes := #[t, t] })
    (e : TypeId) (i : TypeInfo) (z : Value) (size bytes : Nat) (ht : P.underlying t = some (.slice e)) (hi : P.info? e = some i) (hz : i.zero = some z) (hsize : i.size = size) (hby : i.bytes = bytes) (hzs : z.cells.size = size) (hsz : 0 < size)
    (v : Value) (n : Nat) (cs : List Value) (hs : a.eval s = v) (hv : VwS w e size v n cs) (v2 : Value) (m : Nat) (news : List Value) (hx : a.eval x = v2) (hrd : Rd w size v2 m news) (h1 : ∀ u ∈ news, u.oneCell' = true)
    (h63 : n + m ≤ maxLen) (hbytes : (n + m) * bytes ≤ 140737488355328)
    (h : ∀ v' w', VwS w' e size v' (n + m) (cs ++ news) → w.grownBy w' v.ownBlock → Grew w v v' → wpList P ops Q rest (a.put o.dst v') w') : wpList P ops Q (o :: rest) a w := by
  refine wpList_plain hgd fun K hK => ?_
  obtain ⟨v', w', hr, h2, h3, h4⟩ := run_append_vs (P := P) w t o.type e i z size bytes ht hi hz hsize hby hzs hsz v n cs hv v2 m news hrd h1 h63 hbytes
  unfold Oper.wp execOp
  simp only [ho, resolve, invoke, builtin, Sem.run_bind, Sem.run_pure, Result.andThen_ok, List.map_toArray, List.map_cons, List.map_nil, hs, hx, hr]
  exact hK _ _ (h v' w' h2 h3 h4)

/-- Bytes behind a slice without room. -/
theorem run_append_full [Inhabited (Option Nat)] {P : Program} (w : World) (t ty : TypeId) (i : TypeInfo) (ht : P.underlying t = some (.slice 5)) (hi : P.info? 5 = some i) (hz : i.zero = some (.int .u8 0)) (hsize : i.size = 1) (hby : i.bytes = 1)
    (a : Option Addr) (l b : Bs) (hv : RdU w (.slice a l.length l.length) l) (v2 : Value) (hrd : Rd w 1 v2 b.length (bvs b)) (hlen : l.length + b.length ≤ 140737488355328) (hav : Av w.heap.size) :
    ∃ v' w', (Builtin.append_ #[t, t] ty #[.slice a l.length l.length, v2]).run P w = .ok v' w' ∧ RdU w' v' (l ++ b) ∧ w.grownBy w' none := by
  have hmx : l.length + b.length ≤ maxLen := by unfold maxLen; omega
  obtain ⟨⟨hl0, hv1⟩, hv2⟩ := hv
  rcases hv1 with ⟨he, h0⟩ | ⟨ad, c, he, hnc, hcm, hcell⟩
  · simp only [Value.slice.injEq] at he
    obtain ⟨rfl, _, _⟩ := he
    have hl : l = [] := List.eq_nil_of_length_eq_zero h0
    subst hl
    obtain ⟨v', w', hr, hown, hgr, _, _⟩ := run_append_rd (P := P) w w.heap.size t ty 5 i _ 1 1 ht hi hz hsize hby rfl (by decide) (.slice none 0 0) 0 [] (World.ownsRow_nil _ _ _ _) v2 b.length (bvs b) hrd (bvs_one _) (by simpa using hmx) (by simpa using hlen) (Nat.le_refl _)
    exact ⟨v', w', hr, RdU.of_own (base := w.heap.size) (by simpa using hown) hav, hgr⟩
  · simp only [Value.slice.injEq, true_and] at he
    obtain ⟨rfl, rfl⟩ := he
    obtain ⟨hnl, ⟨rfl, h0⟩ | ⟨ad2, c2, rfl, hmc, hc2, hcell2⟩⟩ := hrd
    · have hb : b = [] := List.eq_nil_of_length_eq_zero h0
      subst hb
      refine ⟨.slice (some ad) l.length l.length, w, ?_, ⟨by rw [List.append_nil]; exact ⟨hl0, .inr ⟨ad, _, rfl, hnc, hcm, hcell⟩⟩, hv2⟩, World.grownBy.refl _ _⟩
      simp [Builtin.append_, run_underlying ht, sizeOf, typeInfo, hi, Builtin.lenOf, Builtin.firstCells, storeCells]
    · rcases Nat.eq_zero_or_pos b.length with h0 | h0
      · have hb : b = [] := List.eq_nil_of_length_eq_zero h0
        subst hb
        obtain ⟨bb, bo, bs⟩ := ad
        refine ⟨.slice (some ⟨bb, bo, bs⟩) l.length l.length, w, ?_, ⟨by rw [List.append_nil]; exact ⟨hl0, .inr ⟨_, _, rfl, hnc, hcm, hcell⟩⟩, hv2⟩, World.grownBy.refl _ _⟩
        simp [Builtin.append_, run_underlying ht, sizeOf, typeInfo, hi, hsize, Builtin.lenOf, Builtin.firstCells, storeCells, loadCells, loadCellsFrom]
      · obtain ⟨v', w', hr, hown, hgr⟩ := run_append_arg_grows (P := P) w t ty 5 i _ 1 1 ht hi hz hsize hby rfl (by decide) ad l.length l.length (bvs l) (by simp) hcell ad2 b.length c2 (bvs b) (by simp) hcell2 (by omega) hmx (by omega)
        refine ⟨v', w', hr, RdU.of_own (base := w.heap.size) (by simpa using hown) hav, hgr⟩

theorem wpList_append_full [Inhabited (Option Nat)] {P : Program} (w : World) {ops : Array Oper} {rest : List Oper} {o : Oper} {a : Act} {Q : Exit → Act → World → Prop} (hgd : o.guard = none) (s x : Operand) (t : TypeId)
    (ho : o.op = .call { callee := .builtin .append, args := #[s, x], argTypes := #[t, t] })
    (i : TypeInfo) (ht : P.underlying t = some (.slice 5)) (hi : P.info? 5 = some i) (hz : i.zero = some (.int .u8 0)) (hsize : i.size = 1) (hby : i.bytes = 1)
    (ad : Option Addr) (n : Nat) (l b : Bs) (hs : a.eval s = .slice ad n n) (hn : n = l.length) (hv : RdU w (.slice ad n n) l) (v2 : Value) (hx : a.eval x = v2) (hrd : Rd w 1 v2 b.length (bvs b)) (hlen : l.length + b.length ≤ 140737488355328) (hav : Av w.heap.size)
    (h : ∀ v' w', RdU w' v' (l ++ b) → w.grownBy w' none → wpList P ops Q rest (a.put o.dst v') w') : wpList P ops Q (o :: rest) a w := by
  subst hn
  refine wpList_plain hgd fun K hK => ?_
  obtain ⟨v', w', hr, h2, h3⟩ := run_append_full (P := P) w t o.type i ht hi hz hsize hby ad l b hv v2 hrd hlen hav
  unfold Oper.wp execOp
  simp only [ho, resolve, invoke, builtin, Sem.run_bind, Sem.run_pure, Result.andThen_ok, List.map_toArray, List.map_cons, List.map_nil, hs, hx, hr]
  exact hK _ _ (h v' w' h2 h3)

/-- Blocks of all types but these are as they were. -/
def Kt (E : List TypeId) (w w' : World) : Prop := ∀ g e, Tag w g e → e ∉ E → w'.heap[g]? = w.heap[g]?

theorem Kt.tr {E : List TypeId} {w w' w'' : World} (h : Kt E w w') (h' : Kt E w' w'') : Kt E w w'' := fun g e ht he => (h' g e (ht.kept (h g e ht he)) he).trans (h g e ht he)
theorem Kt.fresh {E : List TypeId} {w w' : World} (hb : Below w.heap.size w w') : Kt E w w' := fun g e ht _ => hb.block g ht.lt
theorem Kt.only {w w' : World} {r : Nat} {e : TypeId} {E : List TypeId} (ho : Only r w w') (hr : Tag w r e) (he : e ∈ E) : Kt E w w' := fun g e' ht hn => ho.block g (ht.ne hr (fun h => hn (h ▸ he)))
theorem Kt.grown {w w' : World} {r : Option Nat} {e : TypeId} {E : List TypeId} (ho : w.grownBy w' r) (hr : ∀ g, r = some g → Tag w g e) (he : e ∈ E) : Kt E w w' := fun g e' ht hn => ho.block g ht.lt (fun hc => ht.ne (hr g hc.symm) (fun h => hn (h ▸ he)) rfl)
theorem CB.kt {w w' : World} {e : TypeId} {g : Nat} {L : List Value} {E : List TypeId} (h : CB w e g L) (hk : Kt E w w') (he : e ∉ E) : CB w' e g L := h.kept (hk g e h.tag he)
theorem RdU.kt [Inhabited (Option Nat)] {w w' : World} {v : Value} {b : Bs} {E : List TypeId} (h : RdU w v b) (hk : Kt E w w') (he : 5 ∉ E) : RdU w' v b := h.kept fun g _ ht => hk g _ ht he
theorem VwS.kt [Inhabited (Option Nat)] {w w' : World} {e : TypeId} {size : Nat} {v : Value} {n : Nat} {cs : List Value} {E : List TypeId} (h : VwS w e size v n cs) (hk : Kt E w w') (he : e ∉ E) : VwS w' e size v n cs := h.kept fun g _ ht => hk g _ ht he

/-- A step: bytes behind a log's end, or a log cut off. -/
inductive St where
  | put (i : Nat) (b : Bs)
  | cut (i n : Nat)

def app (l : List Bs) : St → List Bs
  | .put i b => l.set i (l.getD i [] ++ b)
  | .cut i n => l.set i ((l.getD i []).take n)

theorem app_length (l : List Bs) (x : St) : (app l x).length = l.length := by cases x <;> simp [app]

/-- A step's cells. -/
def StC [Inhabited (Option Nat)] (w : World) (cs : List Value) : St → Prop
  | .put i b => i < 16 ∧ ∃ g1 g2 v, cs = [.func (.func 66) #[] #[.pointer (some ⟨g1, 0, none⟩), .pointer (some ⟨g2, 0, none⟩)], .int .i64 (i : Int), v] ∧ CB w 3 g1 [.int .i64 (i : Int)] ∧ CB w 29 g2 [v] ∧ RdU w v b
  | .cut i n => i < 16 ∧ ∃ g1 g2, cs = [.func (.func 61) #[] #[.pointer (some ⟨g1, 0, none⟩), .pointer (some ⟨g2, 0, none⟩)], .int .i64 0, .slice none 0 0] ∧ CB w 3 g1 [.int .i64 (i : Int)] ∧ CB w 3 g2 [.int .i64 (n : Int)]

theorem StC.kt [Inhabited (Option Nat)] {w w' : World} {cs : List Value} {x : St} {E : List TypeId} (h : StC w cs x) (hk : Kt E w w') (h1 : 5 ∉ E) (h2 : 3 ∉ E) (h3 : 29 ∉ E) : StC w' cs x := by
  cases x with
  | put i b =>
    obtain ⟨hi, g1, g2, v, hc, c1, c2, hr⟩ := h
    exact ⟨hi, g1, g2, v, hc, c1.kt hk h2, c2.kt hk h3, hr.kt hk h1⟩
  | cut i n =>
    obtain ⟨hi, g1, g2, hc, c1, c2⟩ := h
    exact ⟨hi, g1, g2, hc, c1.kt hk h2, c2.kt hk h2⟩

theorem StC.len [Inhabited (Option Nat)] {w : World} {cs : List Value} {x : St} (h : StC w cs x) : cs.length = 3 ∧ ∀ u ∈ cs, u.oneCell' = true := by
  cases x with
  | put i b =>
    obtain ⟨hi, g1, g2, v, rfl, c1, c2, hr⟩ := h
    obtain ⟨a, c, rfl⟩ := hr.slice
    exact ⟨rfl, by simp [Value.oneCell']⟩
  | cut i n =>
    obtain ⟨hi, g1, g2, rfl, c1, c2⟩ := h
    exact ⟨rfl, by simp [Value.oneCell']⟩

/-- Logs. -/
def Lg [Inhabited (Option Nat)] (w : World) (vs : List Value) (ls : List Bs) : Prop := vs.length = 16 ∧ ls.length = 16 ∧ ∀ (i : Nat) (v : Value) (b : Bs), vs[i]? = some v → ls[i]? = some b → RdU w v b

theorem Lg.kt [Inhabited (Option Nat)] {w w' : World} {vs : List Value} {ls : List Bs} {E : List TypeId} (h : Lg w vs ls) (hk : Kt E w w') (he : 5 ∉ E) : Lg w' vs ls := ⟨h.1, h.2.1, fun i v b hv hb => (h.2.2 i v b hv hb).kt hk he⟩

theorem Lg.set [Inhabited (Option Nat)] {w : World} {vs : List Value} {ls : List Bs} (h : Lg w vs ls) {i : Nat} {v : Value} {b : Bs} (hv : RdU w v b) : Lg w (vs.set i v) (ls.set i b) := by
  refine ⟨by simp [h.1], by simp [h.2.1], fun j u c hu hc => ?_⟩
  rw [List.getElem?_set] at hu hc
  split at hu
  · rename_i hij
    rw [if_pos hij] at hc
    split at hu
    · split at hc
      · cases hu; cases hc; exact hv
      · cases hc
    · cases hu
  · rename_i hij
    rw [if_neg hij] at hc
    exact h.2.2 j u c hu hc

theorem Lg.get [Inhabited (Option Nat)] {w : World} {vs : List Value} {ls : List Bs} (h : Lg w vs ls) {i : Nat} (hi : i < 16) : ∃ v b, vs[i]? = some v ∧ ls[i]? = some b ∧ RdU w v b ∧ ls.getD i [] = b := by
  have h1 : i < vs.length := by rw [h.1]; exact hi
  have h2 : i < ls.length := by rw [h.2.1]; exact hi
  refine ⟨_, _, List.getElem?_eq_getElem h1, List.getElem?_eq_getElem h2, h.2.2 i _ _ (List.getElem?_eq_getElem h1) (List.getElem?_eq_getElem h2), by simp [List.getD_eq_getElem?_getD, List.getElem?_eq_getElem h2]⟩

theorem Lg.one [Inhabited (Option Nat)] {w : World} {vs : List Value} {ls : List Bs} (h : Lg w vs ls) : ∀ u ∈ vs, u.oneCell' = true := by
  intro u hu
  obtain ⟨i, hi⟩ := List.mem_iff_getElem?.1 hu
  have hl : i < ls.length := by rw [h.2.1, ← h.1]; exact (List.getElem?_eq_some_iff.1 hi).1
  obtain ⟨a, c, rfl⟩ := (h.2.2 i u _ hi (List.getElem?_eq_getElem hl)).slice
  rfl

/-- A disk: settled logs, logs as they are read, steps that wait, the fuse. -/
structure Dk where
  set : List Bs
  now : List Bs
  wait : List St
  fuse : Int
  armed : Bool
  dead : Bool

def dkC (S : Nat) (ns : List Value) (wv : Value) (f : Int) (a d : Bool) : List Value := .pointer (some ⟨S, 0, none⟩) :: (ns ++ [wv, .int .i64 f, .bool a, .bool d])

structure DkV [Inhabited (Option Nat)] (w : World) (D S : Nat) (vs ns : List Value) (wv : Value) (css : List (List Value)) (k : Dk) : Prop where
  cd : CB w 65 D (dkC S ns wv k.fuse k.armed k.dead)
  cs : CB w 62 S vs
  lv : Lg w vs k.set
  ln : Lg w ns k.now
  wt : VwS w 78 3 wv k.wait.length css.flatten
  wl : css.length = k.wait.length
  ws : ∀ (i : Nat) (x : St) (cs : List Value), k.wait[i]? = some x → css[i]? = some cs → StC w cs x

/-- How a disk lies in memory. -/
def DkAt [Inhabited (Option Nat)] (w : World) (D S : Nat) (wv : Value) (k : Dk) : Prop := ∃ vs ns css, DkV w D S vs ns wv css k

theorem DkV.kt [Inhabited (Option Nat)] {w w' : World} {D S : Nat} {vs ns : List Value} {wv : Value} {css : List (List Value)} {k : Dk} {E : List TypeId} (h : DkV w D S vs ns wv css k) (hk : Kt E w w')
    (h1 : 5 ∉ E) (h2 : 3 ∉ E) (h3 : 29 ∉ E) (h4 : 65 ∉ E) (h5 : 62 ∉ E) (h6 : 78 ∉ E) : DkV w' D S vs ns wv css k :=
  ⟨h.cd.kt hk h4, h.cs.kt hk h5, h.lv.kt hk h1, h.ln.kt hk h1, h.wt.kt hk h6, h.wl, fun i x cs hx hc => (h.ws i x cs hx hc).kt hk h1 h2 h3⟩

theorem DkV.fresh [Inhabited (Option Nat)] {w w' : World} {D S : Nat} {vs ns : List Value} {wv : Value} {css : List (List Value)} {k : Dk} (h : DkV w D S vs ns wv css k) (hb : Below w.heap.size w w') : DkV w' D S vs ns wv css k :=
  h.kt (E := []) (Kt.fresh hb) (by simp) (by simp) (by simp) (by simp) (by simp) (by simp)
theorem DkAt.fresh [Inhabited (Option Nat)] {w w' : World} {D S : Nat} {wv : Value} {k : Dk} (h : DkAt w D S wv k) (hb : Below w.heap.size w w') : DkAt w' D S wv k := by
  obtain ⟨vs, ns, css, h⟩ := h
  exact ⟨vs, ns, css, h.fresh hb⟩

theorem dkC_length {S : Nat} {ns : List Value} {wv : Value} {f : Int} {a d : Bool} (h : ns.length = 16) : (dkC S ns wv f a d).length = 21 := by simp [dkC, h]
theorem dkC_now {S : Nat} {ns : List Value} {wv : Value} {f : Int} {a d : Bool} {i : Nat} (h : ns.length = 16) (hi : i < 16) : (dkC S ns wv f a d)[i + 1]? = ns[i]? := by
  unfold dkC
  rw [List.getElem?_cons_succ, List.getElem?_append_left (by omega)]
theorem dkC_tail {S : Nat} {ns : List Value} {wv : Value} {f : Int} {a d : Bool} (h : ns.length = 16) (j : Nat) : (dkC S ns wv f a d)[17 + j]? = [wv, .int .i64 f, .bool a, .bool d][j]? := by
  unfold dkC
  rw [show 17 + j = (16 + j) + 1 by omega, List.getElem?_cons_succ, List.getElem?_append_right (by omega)]
  congr 1
  omega
theorem dkC_setNow {S : Nat} {ns : List Value} {wv v : Value} {f : Int} {a d : Bool} {i : Nat} (h : ns.length = 16) (hi : i < 16) : (dkC S ns wv f a d).set (i + 1) v = dkC S (ns.set i v) wv f a d := by
  unfold dkC
  rw [List.set_cons_succ, List.set_append_left _ _ (by omega)]
theorem dkC_setWait {S : Nat} {ns : List Value} {wv v : Value} {f : Int} {a d : Bool} (h : ns.length = 16) : (dkC S ns wv f a d).set 17 v = dkC S ns v f a d := by
  unfold dkC
  rw [List.set_cons_succ, List.set_append_right _ _ (by omega), h]
  rfl
theorem dkC_setFuse {S : Nat} {ns : List Value} {wv : Value} {f f' : Int} {a d : Bool} (h : ns.length = 16) : (dkC S ns wv f a d).set 18 (.int .i64 f') = dkC S ns wv f' a d := by
  unfold dkC
  rw [List.set_cons_succ, List.set_append_right _ _ (by omega), h]
  rfl
theorem dkC_setArmed {S : Nat} {ns : List Value} {wv : Value} {f : Int} {a a' d : Bool} (h : ns.length = 16) : (dkC S ns wv f a d).set 19 (.bool a') = dkC S ns wv f a' d := by
  unfold dkC
  rw [List.set_cons_succ, List.set_append_right _ _ (by omega), h]
  rfl
theorem dkC_setDead {S : Nat} {ns : List Value} {wv : Value} {f : Int} {a d d' : Bool} (h : ns.length = 16) : (dkC S ns wv f a d).set 20 (.bool d') = dkC S ns wv f a d' := by
  unfold dkC
  rw [List.set_cons_succ, List.set_append_right _ _ (by omega), h]
  rfl

/-- From w to w' only the disk at D, its settled logs at S, its row of steps and new blocks have turned. -/
structure Mv (D S : Nat) (wv : Value) (w w' : World) : Prop where
  os : w'.os = w.os
  tape : w'.tape = w.tape
  output : w'.output = w.output
  size : w.heap.size ≤ w'.heap.size
  block : ∀ j, j < w.heap.size → j ≠ D → j ≠ S → wv.ownBlock ≠ some j → w'.heap[j]? = w.heap[j]?

theorem Mv.refl (D S : Nat) (wv : Value) (w : World) : Mv D S wv w w := ⟨rfl, rfl, rfl, Nat.le_refl _, fun _ _ _ _ _ => rfl⟩
theorem Mv.tr {D S : Nat} {wv wv' : Value} {w w' w'' : World} (h : Mv D S wv w w') (h' : Mv D S wv' w' w'') (hg : Grew w wv wv') : Mv D S wv w w'' :=
  ⟨h'.os.trans h.os, h'.tape.trans h.tape, h'.output.trans h.output, Nat.le_trans h.size h'.size, fun j hj h1 h2 h3 => (h'.block j (Nat.lt_of_lt_of_le hj h.size) h1 h2 (fun hc => (hg j hc).elim h3 (fun hle => by omega))).trans (h.block j hj h1 h2 h3)⟩
theorem Mv.tr' [Inhabited (Option Nat)] {D S : Nat} {wv : Value} {w w' w'' : World} (h : Mv D S wv w w') (h' : Mv D S wv w' w'') : Mv D S wv w w'' := h.tr h' (fun k hk => .inl hk)
theorem Mv.fresh {D S : Nat} {wv : Value} {w w' : World} (h : Below w.heap.size w w') : Mv D S wv w w' := ⟨h.os, h.tape, h.output, h.size, fun j hj _ _ _ => h.block j hj⟩
theorem Mv.disk {D S : Nat} {wv : Value} {w w' : World} (h : Only D w w') : Mv D S wv w w' := ⟨h.os, h.tape, h.output, by rw [h.size]; exact Nat.le_refl _, fun j _ h1 _ _ => h.block j h1⟩
theorem Mv.row {D S : Nat} {wv : Value} {w w' : World} (h : w.grownBy w' wv.ownBlock) : Mv D S wv w w' := ⟨h.os, h.tape, h.output, h.size, fun j hj _ _ h3 => h.block j hj (fun e => h3 e.symm)⟩
theorem Mv.gD {D S : Nat} {wv : Value} {w w' : World} (h : w.grownBy w' (some D)) : Mv D S wv w w' := ⟨h.os, h.tape, h.output, h.size, fun j hj h1 _ _ => h.block j hj (fun e => h1 (by simpa using e))⟩
theorem Mv.gS {D S : Nat} {wv : Value} {w w' : World} (h : w.grownBy w' (some S)) : Mv D S wv w w' := ⟨h.os, h.tape, h.output, h.size, fun j hj _ h1 _ => h.block j hj (fun e => h1 (by simpa using e))⟩
theorem Mv.below {B D S : Nat} {wv : Value} {w w' : World} (h : Mv D S wv w w') (h1 : B ≤ D) (h2 : B ≤ S) (h3 : ∀ g, wv.ownBlock = some g → B ≤ g) (hs : B ≤ w.heap.size) : Below B w w' :=
  ⟨h.os, h.tape, h.output, h.size, fun j hj => h.block j (by omega) (by omega) (by omega) (fun hc => by have := h3 j hc; omega)⟩
theorem Mv.kt [Inhabited (Option Nat)] {D S : Nat} {wv : Value} {w w' : World} {k : Dk} (h : Mv D S wv w w') (hd : DkAt w D S wv k) : Kt [65, 62, 78] w w' := by
  obtain ⟨vs, ns, css, hd⟩ := hd
  intro g e ht he
  refine h.block g ht.lt (fun e1 => ?_) (fun e1 => ?_) (fun e1 => ?_)
  · exact ht.ne hd.cd.tag (fun e2 => he (by simp [e2])) e1
  · exact ht.ne hd.cs.tag (fun e2 => he (by simp [e2])) e1
  · exact ht.ne (hd.wt.tag g e1) (fun e2 => he (by simp [e2])) rfl

end Go.Proofs.Ytbbbgpdhdlknjaa
