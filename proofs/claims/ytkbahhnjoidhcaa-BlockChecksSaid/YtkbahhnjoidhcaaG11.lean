/- Texts Ba Bb Bc Bd, one behind the other. -/
import Derived.Test.YtkbahhnjoidhcaaVa
import Derived.MapKept
import Derived.Test.YtkbahhnjoidhcaaVj
import Derived.Test.YtkbahhnjoidhcaaMr
import Derived.Test.YtkbahhnjoidhcaaG5
import Derived.Test.YtkbahhnjoidhcaaXt
import Derived.Test.YtkbahhnjoidhcaaG4
import Derived.Great.BuildSlice
/- Sets of hashes, kept in maps. -/
namespace Go.Proofs.Ytkbahhnjoidhcaa
set_option linter.unusedVariables false
set_option linter.unusedSimpArgs false
open Go.RowKit Go.MapKept

def sameHh (x y : Bs) : Bool := x == y
def inSetH (l : List Bs) (x : Bs) : Bool := l.any (sameHh x)
def setVh : Value := .agg #[.bool true]

/-- A map whose keys are these outpoints. -/
def MapSetH (w : World) (r : Nat) (l : List Bs) : Prop := (∀ y ∈ l, y.length = 32) ∧ ∃ (es : Array MapEntry) (clock : Nat), w.heap[r]? = some (.map es clock) ∧ es.toList.map (fun e => (e.key, e.val)) = l.map (fun y => (Value.agg (bvs y).toArray, setVh))

theorem sameHh_C {x y : Bs} (h : sameHh x y = true) : bvs x = bvs y := by
  simp only [sameHh, beq_iff_eq] at h
  rw [h]

set_option maxRecDepth 100000 in
theorem checkKey_h (w : World) (b : Bool) (x : Bs) (hx : x.length = 32) : (Instr.checkKey b 10000 24 (.agg (bvs x).toArray)).run Try.prog w = .ok () w := by
  obtain ⟨a0, a1, a2, a3, a4, a5, a6, a7, a8, a9, a10, a11, a12, a13, a14, a15, a16, a17, a18, a19, a20, a21, a22, a23, a24, a25, a26, a27, a28, a29, a30, a31, rfl⟩ := of32' (h := x) hx
  kernel_rfl

theorem h_equal' (w : World) (x y : Bs) (hx : x.length = 32) (hy : y.length = 32) : (Op.equal 24 (.agg (bvs x).toArray) (.agg (bvs y).toArray)).run Try.prog w = .ok (sameHh x y) w := equal_hashIn w 9998 x y hx hy

theorem findAsking_h (w : World) (x : Bs) (hx : x.length = 32) : ∀ (es : List MapEntry) (l : List Bs) (i : Nat), (∀ y ∈ l, y.length = 32) → es.map (fun e => (e.key, e.val)) = l.map (fun y => (Value.agg (bvs y).toArray, setVh)) →
    (inSetH l x = false ∧ (Instr.findAsking 24 (.agg (bvs x).toArray) es i).run Try.prog w = .ok none w) ∨
    (inSetH l x = true ∧ ∃ (j : Nat) (e : MapEntry), es[j]? = some e ∧ e.key = .agg (bvs x).toArray ∧ e.val = setVh ∧ (Instr.findAsking 24 (.agg (bvs x).toArray) es i).run Try.prog w = .ok (some (i + j, setVh)) w)
  | [], l, i, hl, h => by
    have : l = [] := by
      cases l with
      | nil => rfl
      | cons y l => simp at h
    subst this
    exact .inl ⟨rfl, rfl⟩
  | e :: es, l, i, hl, h => by
    cases l with
    | nil => simp at h
    | cons y l =>
      simp only [List.map_cons, List.cons.injEq, Prod.mk.injEq] at h
      obtain ⟨⟨hk, hv⟩, ht⟩ := h
      have hy := hl y (by simp)
      have hq := h_equal' w x y hx hy
      rw [← hk] at hq
      unfold Instr.findAsking
      simp only [Sem.run_bind, hq, Result.andThen_ok]
      cases hs : sameHh x y with
      | true =>
        refine .inr ⟨by simp [inSetH, hs], 0, e, rfl, by rw [hk, sameHh_C hs], hv, ?_⟩
        simp [hv]
      | false =>
        have hin : inSetH (y :: l) x = inSetH l x := by simp [inSetH, hs]
        rw [hin]
        rcases findAsking_h w x hx es l (i + 1) (fun z hz => hl z (by simp [hz])) ht with ⟨h1, h2⟩ | ⟨h1, j, e', h2, h3, h4, h5⟩
        · exact .inl ⟨h1, by simpa using h2⟩
        · exact .inr ⟨h1, j + 1, e', by simpa using h2, h3, h4, by simpa [Nat.add_assoc, Nat.add_comm 1 j] using h5⟩

theorem findNow_h (k : Value) (es : List MapEntry) (n : Nat) (e : TypeId) : Instr.findNow (.array n e) k es 0 = if es = [] then some none else none := by
  cases es with
  | nil => rfl
  | cons e es => simp [Instr.findNow, Instr.sameNow]

theorem findKey_h (w : World) (x : Bs) (hx : x.length = 32) (es : List MapEntry) (l : List Bs) (hl : ∀ y ∈ l, y.length = 32) (h : es.map (fun e => (e.key, e.val)) = l.map (fun y => (Value.agg (bvs y).toArray, setVh))) :
    (inSetH l x = false ∧ (Instr.findKey 24 (.agg (bvs x).toArray) es).run Try.prog w = .ok none w) ∨
    (inSetH l x = true ∧ ∃ (j : Nat) (e : MapEntry), es[j]? = some e ∧ e.key = .agg (bvs x).toArray ∧ e.val = setVh ∧ (Instr.findKey 24 (.agg (bvs x).toArray) es).run Try.prog w = .ok (some (j, setVh)) w) := by
  unfold Instr.findKey
  simp only [Sem.run_bind, run_underlying Try.underlying24, Result.andThen_ok, findNow_h]
  cases es with
  | nil =>
    have : l = [] := by
      cases l with
      | nil => rfl
      | cons y l => simp at h
    subst this
    exact .inl ⟨rfl, rfl⟩
  | cons e es =>
    rw [if_neg (by simp)]
    have := findAsking_h w x hx (e :: es) l 0 hl h
    simpa using this

theorem zero_ish (w : World) : (zeroValue 114).run Try.prog w = .ok (.agg #[.bool false]) w := by kernel_rfl

theorem run_field_h (B : Bool) (w : World) : (Instr.field 114 (.agg #[.bool B]) 0).run Try.prog w = .ok (.bool B) w := by cases B <;> kernel_rfl

/-- 'm[k]': is it there? -/
theorem run_lookup_h (w : World) (r : Nat) (l : List Bs) (x : Bs) (h : MapSetH w r l) (hx : x.length = 32) :
    (Instr.lookup 113 (.map (some r)) (.agg (bvs x).toArray) false).run Try.prog w = .ok (.agg #[.bool (inSetH l x)]) w := by
  obtain ⟨hl, es, clock, hb, hm⟩ := h
  unfold Instr.lookup
  simp only [Sem.run_bind, run_underlying Try.underlying113, Result.andThen_ok, Go.MapKept.run_getObj_map hb, Sem.run_pure, checkKey_h w _ x hx]
  rcases findKey_h w x hx es.toList l hl hm with ⟨h1, h2⟩ | ⟨h1, j, e, _, _, _, h2⟩
  · simp [h1, h2, zero_ish]
  · simp [h1, h2, setVh]

theorem sameBits_h (x : Bs) : Instr.sameBits 10000 (.agg (bvs x).toArray) (.agg (bvs x).toArray) = true := by
  unfold Instr.sameBits
  simp only [beq_self_eq_true, Bool.true_and, List.all_eq_true]
  intro p hp
  obtain ⟨i, hi⟩ := List.getElem?_of_mem hp
  obtain ⟨p1, p2⟩ := p
  rw [List.getElem?_zip_eq_some] at hi
  obtain ⟨h1, h2⟩ := hi
  rw [h1] at h2
  cases h2
  have hm := List.mem_of_getElem? h1
  simp only [bvs, List.mem_map] at hm
  obtain ⟨b, _, rfl⟩ := hm
  simp [bv, Instr.sameBits]

/-- 'm[k] = true'. -/
theorem run_update_h (w : World) (r : Nat) (l : List Bs) (x : Bs) (h : MapSetH w r l) (hx : x.length = 32) :
    ∃ w', (Instr.mapUpdate 113 (.map (some r)) (.agg (bvs x).toArray) setVh).run Try.prog w = .ok () w' ∧ MapSetH w' r (if inSetH l x then l else l ++ [x]) ∧ Only r w w' := by
  obtain ⟨hl, es, clock, hb, hm⟩ := h
  have hon : ∀ o : Obj, Only r w { w with heap := w.heap.setIfInBounds r o } := fun o => ⟨rfl, rfl, rfl, by simp, fun k hk => (heap_set hb).2 k hk⟩
  rcases findKey_h w x hx es.toList l hl hm with ⟨h1, h2⟩ | ⟨h1, j, e, h3, h4, h5, h2⟩
  · refine ⟨{ w with heap := w.heap.setIfInBounds r (.map (es.push { key := .agg (bvs x).toArray, val := setVh, born := clock }) (clock + 1)) }, ?_, ?_, hon _⟩
    · unfold Instr.mapUpdate
      simp only [Sem.run_bind, run_underlying Try.underlying113, Result.andThen_ok, Go.MapKept.run_getObj_map hb, checkKey_h w _ x hx, h2, Go.MapKept.run_setObj_map _ hb]
    · rw [h1]
      refine ⟨fun y hy => ?_, _, _, (heap_set hb).1, ?_⟩
      · simp at hy
        rcases hy with hy | rfl
        · exact hl y hy
        · exact hx
      · simp [hm]
  · refine ⟨{ w with heap := w.heap.setIfInBounds r (.map (es.modify j fun e => { e with key := .agg (bvs x).toArray, val := setVh }) clock) }, ?_, ?_, hon _⟩
    · have hej : (es[j]?).map (·.key) = some (.agg (bvs x).toArray) := by
        rw [← Array.getElem?_toList, h3]
        simp [h4]
      have hsb := sameBits_h x
      unfold Instr.mapUpdate
      simp only [Sem.run_bind, run_underlying Try.underlying113, Result.andThen_ok, Go.MapKept.run_getObj_map hb, checkKey_h w _ x hx, h2, hej, Option.getD_some, Instr.keyThatStays, hsb, if_true, Sem.run_pure, Go.MapKept.run_setObj_map _ hb]
    · rw [if_pos h1]
      refine ⟨hl, _, _, (heap_set hb).1, ?_⟩
      rw [← hm]
      refine List.ext_getElem? fun i => ?_
      rw [Array.toList_modify, List.getElem?_map, List.getElem?_map, List.getElem?_modify]
      by_cases hij : j = i
      · subst hij
        rw [h3]
        simp [h4, h5]
      · cases hq : es.toList[i]? with
        | none => simp
        | some q => simp [hij]

theorem wpList_lookup_h {ops : Array Oper} {rest : List Oper} {o : Oper} {a : Act} {w : World} {Q : Exit → Act → World → Prop} (hgd : o.guard = none) (m k : Operand) (ho : o.op = .lookup 113 m k false)
    (r : Nat) (l : List Bs) (x : Bs) (hm : a.eval m = .map (some r)) (hk : a.eval k = .agg (bvs x).toArray) (hs : MapSetH w r l) (hx : x.length = 32)
    (h : wpList Try.prog ops Q rest (a.put o.dst (.agg #[.bool (inSetH l x)])) w) : wpList Try.prog ops Q (o :: rest) a w := by
  refine wpList_plain hgd fun _ hK => ?_
  unfold Oper.wp execOp
  simp only [ho, hm, hk, run_lookup_h w r l x hs hx, Sem.run_bind, Sem.run_pure, Result.andThen_ok]
  exact hK _ _ h

theorem wpList_update_h {ops : Array Oper} {rest : List Oper} {o : Oper} {a : Act} {w : World} {Q : Exit → Act → World → Prop} (hgd : o.guard = none) (m k v : Operand) (ho : o.op = .mapUpdate 113 m k v)
    (r : Nat) (l : List Bs) (x : Bs) (hm : a.eval m = .map (some r)) (hk : a.eval k = .agg (bvs x).toArray) (hv : a.eval v = setVh) (hs : MapSetH w r l) (hx : x.length = 32)
    (h : ∀ w', MapSetH w' r (if inSetH l x then l else l ++ [x]) → Only r w w' → wpList Try.prog ops Q rest (a.put o.dst undef) w') : wpList Try.prog ops Q (o :: rest) a w := by
  obtain ⟨w', hr, h1, h2⟩ := run_update_h w r l x hs hx
  refine wpList_plain hgd fun _ hK => ?_
  unfold Oper.wp execOp
  simp only [ho, hm, hk, hv, hr, Sem.run_bind, Sem.run_pure, Result.andThen_ok]
  exact hK _ _ (h w' h1 h2)

/-- No hash twice. -/
def UnlikeH (l : List Bs) : Prop := l.Pairwise (fun a b => sameHh a b = false)
instance (l : List Bs) : Decidable (UnlikeH l) := by unfold UnlikeH; infer_instance

theorem sameHh_comm (x y : Bs) : sameHh x y = sameHh y x := by
  simp only [sameHh]
  rw [Bool.eq_iff_iff, beq_iff_eq, beq_iff_eq]
  exact eq_comm

theorem unlikeH_next {l : List Bs} {k : Nat} {x : Bs} (hx : l[k]? = some x) (h : UnlikeH (l.take k)) (hn : inSetH (l.take k) x = false) : UnlikeH (l.take (k + 1)) := by
  unfold UnlikeH at *
  rw [List.take_add_one, hx, Option.toList, List.pairwise_append]
  refine ⟨h, by simp, fun a ha b hb => ?_⟩
  simp at hb
  subst hb
  simp only [inSetH, List.any_eq_false] at hn
  have := hn a ha
  rw [sameHh_comm]
  simpa using this

theorem unlikeH_not {l : List Bs} {k : Nat} {x : Bs} (hx : l[k]? = some x) (hn : inSetH (l.take k) x = true) : ¬ UnlikeH l := by
  intro h
  unfold UnlikeH at h
  have e : l = l.take k ++ x :: l.drop (k + 1) := by
    have hk := (List.getElem?_eq_some_iff.1 hx)
    obtain ⟨h1, h2⟩ := hk
    conv => lhs; rw [← List.take_append_drop k l]
    rw [List.drop_eq_getElem_cons h1, h2]
  rw [e, List.pairwise_append] at h
  simp only [inSetH, List.any_eq_true] at hn
  obtain ⟨y, hy, hs⟩ := hn
  have := h.2.2 y hy x (by simp)
  rw [sameHh_comm] at this
  rw [this] at hs
  cases hs

theorem inSetH_next {l : List Bs} {k : Nat} {y x : Bs} (hy : l[k]? = some y) (h : inSetH (l.take k) x = false) (hs : sameHh x y = false) : inSetH (l.take (k + 1)) x = false := by
  rw [List.take_add_one, hy, Option.toList]
  unfold inSetH at *
  rw [List.any_append, h]
  simp [hs]

theorem inSetH_of {l : List Bs} {k i : Nat} {y x : Bs} (hy : l[k]? = some y) (hk : k < i) (hs : sameHh x y = true) : inSetH (l.take i) x = true := by
  unfold inSetH
  rw [List.any_eq_true]
  refine ⟨y, ?_, hs⟩
  have : (l.take i)[k]? = some y := by rw [List.getElem?_take_of_lt hk]; exact hy
  exact List.mem_of_getElem? this

theorem MapSetH.fresh {w w' : World} {r : Nat} {l : List Bs} (h : MapSetH w r l) (hb : Below w.heap.size w w') : MapSetH w' r l := by
  obtain ⟨hl, es, clock, h1, h2⟩ := h
  exact ⟨hl, es, clock, (hb.block r (lt_of_block h1)).trans h1, h2⟩
theorem MapSetH.only {w w' : World} {r g : Nat} {l : List Bs} (h : MapSetH w r l) (ho : Only g w w') (hg : r ≠ g) : MapSetH w' r l := by
  obtain ⟨hl, es, clock, h1, h2⟩ := h
  exact ⟨hl, es, clock, (ho.block r hg).trans h1, h2⟩
theorem MapSetH.lt {w : World} {r : Nat} {l : List Bs} (h : MapSetH w r l) : r < w.heap.size := by
  obtain ⟨_, _, _, h1, _⟩ := h
  exact lt_of_block h1
theorem MapSetH.new (w : World) : MapSetH (w.alloc (.map #[] 0)) w.heap.size [] := ⟨fun y h => by simp at h, #[], 0, heap_alloc_new w _, rfl⟩

end Go.Proofs.Ytkbahhnjoidhcaa

/- Blocks: transactions' ids, their root: the walks. -/
namespace Go.Proofs.Ytkbahhnjoidhcaa
set_option linter.unusedVariables false
set_option linter.unusedSimpArgs false
open Go.RowKit Go.Lib

set_option maxRecDepth 100000 in
set_option maxHeartbeats 2000000 in
theorem bids_any (F : Nat → Prop) (w : World) (v : Value) (l : List TxD) (h : Txs F w v l) (hwf : ∀ x ∈ l, TxWf x) (hl : l.length ≤ 1048576) :
    Calls Try.prog 79 #[v] w fun e w' => ∃ v', e = .returned v' ∧ Ho w' w.heap.size v' (l.map idB) ∧ Below w.heap.size w w' := by
  obtain ⟨i0, hi, hz0, hz1, hz2⟩ := info_parts infoHash3
  have HINH := Lib.hid (And.intro hi (And.intro hz0 (And.intro hz1 hz2)))
  clear hi hz0 hz1 hz2
  obtain ⟨a0, c0, rfl⟩ := h.slice
  obtain ⟨N, hN⟩ : ∃ N, N = l.length := ⟨_, rfl⟩
  obtain ⟨us, hlu, hru, heu⟩ := h
  rw [← hN] at hlu hru hl ⊢
  change RdF F w 3 (.slice a0 N c0) N _ at hru
  have HR := Lib.hid hru.1
  have HE := Lib.hid (And.intro hlu heu)
  have HL := Lib.hid hl
  have HN := Lib.hid hN
  have HW := Lib.hid hwf
  have bN' : (N : Int) ≤ 9223372036854775807 := by omega
  clear hlu hru heu hl hN hwf
  go_enter Try.func79, Try.ntmps79
  go_wp2
  go_loopw [3, 8] (fun v3 v8 wr => ∃ k : Nat, k ≤ N ∧ v8 = .int .i64 (k : Int) ∧ Ho wr w.heap.size v3 ((l.take k).map idB) ∧ Below w.heap.size w wr)
    (fun _ v _ => N - (RowKit.intOf v).toNat)
  case atStart => exact ⟨0, Nat.zero_le _, rfl, Ho.nil _ _, Below.refl _ _⟩
  case round =>
    obtain ⟨k, hk, rfl, ho, hb⟩ := hrel
    obtain ⟨a3, c3, rfl⟩ := ho.slice' (n := k) (by rw [List.length_map, List.length_take]; have := HN.out; omega)
    have Ho' := Lib.hid ho
    have BB := Lib.hid hb
    clear ho hb
    by_cases hlt : k < N
    · obtain ⟨xk, hx⟩ : ∃ x, l[k]? = some x := ⟨_, List.getElem?_eq_getElem (by rw [← HN.out]; exact hlt)⟩
      obtain ⟨uk, hu⟩ : ∃ x, us[k]? = some x := ⟨_, List.getElem?_eq_getElem (by rw [HE.out.1]; exact hlt)⟩
      obtain ⟨ad, c, he⟩ := rd_some HR.out (by omega)
      simp only [Value.slice.injEq, true_and] at he
      obtain ⟨rfl, rfl⟩ := he
      have hz : (l.zip us)[k]? = some (xk, uk) := by rw [List.getElem?_zip_eq_some]; exact ⟨hx, hu⟩
      have h9 := HE.out.2 k xk uk hx hu
      have HC := Lib.hid ((HR.out.fresh BB.out).at (fun z _ => rfl) hz)
      have HIO := Lib.hid (And.intro (h9.1.fresh BB.out) (h9.2.fresh BB.out))
      have HP : Hid (uk.1.oneCell' = true ∧ uk.2.oneCell' = true) := Lib.hid ⟨by obtain ⟨_, _, e⟩ := h9.1.slice; rw [e]; rfl, by obtain ⟨_, _, e⟩ := h9.2.slice; rw [e]; rfl⟩
      have HX := Lib.hid hx
      have ik : (k : Int) < (N : Int) := by omega
      have HK := Lib.hid hlt
      clear hx hu hz h9 hlt hk
      go_wp2_with (with_reducible refine stopAt 11 ?_)
      refine Stop.go ?_
      refine wpList_load_agg rfl 37 (.tmp 10) rfl (ad.add (k * 3)) rfl (txC (xk, uk)) _ HC.out Try.underlying37 rfl (by exact infoTx) ?_
      go_wp2_with (with_reducible refine stopStore 37 ?_)
      refine Stop.go ?_
      refine wpList_store_var rfl 37 (.tmp 5) (.tmp 11) rfl wr.heap.size _ rfl _ (txC (xk, uk)) rfl (heap_alloc_new wr _) (by rfl) (txC_one xk uk HP.out.1 HP.out.2) (by exact infoTx) ?_
      intro w1 k1 o1
      have b1 : Below wr.heap.size wr w1 := Below.only ((Below.refl _ wr).alloc (Nat.le_refl _) _) o1 (Nat.le_refl _)
      obtain ⟨G5, hG5⟩ : ∃ g, g = wr.heap.size := ⟨_, rfl⟩
      have KK : Hid (CB w1 37 G5 (txC (xk, uk))) := Lib.hid (by rw [hG5]; exact k1)
      rw [← hG5]
      have BW1 := Lib.hid b1
      clear k1 o1 b1 hG5
      go_wp2_with (with_reducible refine stopAt 13 ?_)
      refine Stop.go ?_
      refine wpList_load_agg rfl 37 (.tmp 5) rfl ⟨G5, 0, none⟩ rfl (txC (xk, uk)) _ (At.block KK.out).load Try.underlying37 rfl (by exact infoTx) ?_
      obtain ⟨Z, hZ⟩ : ∃ Z, Z = idB xk := ⟨_, rfl⟩
      have hZl := idB_len xk
      have C := id_any F w1 xk uk (HIO.out.1.fresh BW1.out) (HIO.out.2.fresh BW1.out) (HW.out xk (List.mem_of_getElem? HX.out))
      rw [← hZ] at C hZl
      have HZ := Lib.hid (And.intro hZ hZl)
      replace C := Lib.hid C
      clear hZ hZl
      go_wp2_with fail
      refine (C.out).mono ?_
      rintro e w2 ⟨rfl, b2⟩
      have B2 := Lib.hid (BW1.out.tr b2)
      clear b2 C
      go_wp2_with (with_reducible refine stopAt 15 ?_)
      refine Stop.go ?_
      refine wpList_buildH rfl 1 _ rfl ([Z]) (H32.one HZ.out.2) rfl (by decide) (by decide) (by kernel_rfl) ?_
      intro w3 pw3 bw3 sw3
      have p3 := pw3
      have b3 := bw3
      clear pw3 bw3 sw3
      have B3 := Lib.hid (B2.out.tr b3)
      have P3 := Lib.hid p3
      clear p3 b3
      go_wp2_with (at_builtin; apply Stop.mk)
      refine Stop.go ?_
      refine wpList_append_rd _ rfl (.tmp 12) (.tmp 15) 22 rfl w.heap.size 24 i0 _ 32 32 Try.underlying22 HINH.out.1 HINH.out.2.1 HINH.out.2.2.1 HINH.out.2.2.2 (by simp [Value.cells]) (by decide) (.slice a3 k c3) k (bvs ((l.take k).map idB).flatten) rfl (by have h := (Ho'.out.fresh B3.out).2; rwa [List.length_map, List.length_take, show min k l.length = k by have := HN.out; have := HK.out; omega] at h) _ 1 _ rfl P3.out.2 (bvs_one _) (by unfold maxLen; have := HK.out; have := HL.out; omega) (by have := HK.out; have := HL.out; omega) (by have := BB.out.size; have := B3.out.size; omega) ?_
      intro v4 w4 hown4 hgr4 _ _
      have B4 : Hid (Below w.heap.size w w4) := Lib.hid ((BB.out.tr B3.out).grown hgr4 (by have := BB.out.size; have := B3.out.size; omega) (fun j hj => (Ho'.out.2.lt j hj).1))
      have O4 : Hid (Ho w4 w.heap.size v4 ((l.take (k + 1)).map idB)) := Lib.hid (by
        have e1 : (l.take (k + 1)).map idB = (l.take k).map idB ++ [Z] := by rw [List.take_add_one, HX.out, HZ.out.1]; simp
        rw [e1]
        refine ⟨Ho'.out.1.append (H32.one HZ.out.2), ?_⟩
        rw [List.flatten_append, bvs_append, List.length_append, List.length_map, List.length_take, show min k l.length = k by have := HN.out; have := HK.out; omega]
        exact hown4)
      clear hown4 hgr4
      go_wp2
      go_roundw
      case rel => exact ⟨k + 1, HK.out, by go_num, O4.out, B4.out⟩
      case measure => simp only [RowKit.intOf]; have := HK.out; omega
    · have ik : ¬ ((k : Int) < (N : Int)) := by omega
      have O4 : Hid (Ho wr w.heap.size (.slice a3 k c3) (l.map idB)) := Lib.hid (by
        have h := Ho'.out
        rwa [List.take_of_length_le (by have := HN.out; omega)] at h)
      clear hlt hk
      go_wp2
      go_ret
      exact ⟨_, rfl, O4.out, BB.out⟩

set_option maxRecDepth 100000 in
set_option maxHeartbeats 2000000 in
theorem rbids_any (F : Nat → Prop) (w : World) (v : Value) (l : List TxD) (h : Txs F w v l) (hwf : ∀ x ∈ l, TxWf x) (hl : l.length ≤ 1048576) :
    Calls Try.prog 72 #[v] w fun e w' => ∃ v', e = .returned v' ∧ Ho w' w.heap.size v' (l.map idB) ∧ Below w.heap.size w w' := by
  obtain ⟨i0, hi, hz0, hz1, hz2⟩ := info_parts infoHash3
  have HINH := Lib.hid (And.intro hi (And.intro hz0 (And.intro hz1 hz2)))
  clear hi hz0 hz1 hz2
  obtain ⟨a0, c0, rfl⟩ := h.slice
  obtain ⟨N, hN⟩ : ∃ N, N = l.length := ⟨_, rfl⟩
  obtain ⟨us, hlu, hru, heu⟩ := h
  rw [← hN] at hlu hru hl ⊢
  change RdF F w 3 (.slice a0 N c0) N _ at hru
  have HR := Lib.hid hru.1
  have HE := Lib.hid (And.intro hlu heu)
  have HL := Lib.hid hl
  have HN := Lib.hid hN
  have HW := Lib.hid hwf
  have bN' : (N : Int) ≤ 9223372036854775807 := by omega
  clear hlu hru heu hl hN hwf
  go_enter Try.func72, Try.ntmps72
  go_wp2
  go_loopw [3, 4] (fun v3 v8 wr => ∃ k : Nat, k ≤ N ∧ v8 = .int .i64 (k : Int) ∧ Ho wr w.heap.size v3 ((l.take k).map idB) ∧ Below w.heap.size w wr)
    (fun _ v _ => N - (RowKit.intOf v).toNat)
  case atStart => exact ⟨0, Nat.zero_le _, rfl, Ho.nil _ _, Below.refl _ _⟩
  case round =>
    obtain ⟨k, hk, rfl, ho, hb⟩ := hrel
    obtain ⟨a3, c3, rfl⟩ := ho.slice' (n := k) (by rw [List.length_map, List.length_take]; have := HN.out; omega)
    have Ho' := Lib.hid ho
    have BB := Lib.hid hb
    clear ho hb
    by_cases hlt : k < N
    · obtain ⟨xk, hx⟩ : ∃ x, l[k]? = some x := ⟨_, List.getElem?_eq_getElem (by rw [← HN.out]; exact hlt)⟩
      obtain ⟨uk, hu⟩ : ∃ x, us[k]? = some x := ⟨_, List.getElem?_eq_getElem (by rw [HE.out.1]; exact hlt)⟩
      obtain ⟨ad, c, he⟩ := rd_some HR.out (by omega)
      simp only [Value.slice.injEq, true_and] at he
      obtain ⟨rfl, rfl⟩ := he
      have hz : (l.zip us)[k]? = some (xk, uk) := by rw [List.getElem?_zip_eq_some]; exact ⟨hx, hu⟩
      have h9 := HE.out.2 k xk uk hx hu
      have HC := Lib.hid ((HR.out.fresh BB.out).at (fun z _ => rfl) hz)
      have HIO := Lib.hid (And.intro (h9.1.fresh BB.out) (h9.2.fresh BB.out))
      have HP : Hid (uk.1.oneCell' = true ∧ uk.2.oneCell' = true) := Lib.hid ⟨by obtain ⟨_, _, e⟩ := h9.1.slice; rw [e]; rfl, by obtain ⟨_, _, e⟩ := h9.2.slice; rw [e]; rfl⟩
      have HX := Lib.hid hx
      have ik : (k : Int) < (N : Int) := by omega
      have HK := Lib.hid hlt
      clear hx hu hz h9 hlt hk
      have BW1 : Hid (Below wr.heap.size wr wr) := Lib.hid (Below.refl _ _)
      go_wp2_with (with_reducible refine stopAt 15 ?_)
      refine Stop.go ?_
      refine wpList_load_agg rfl 37 (.tmp 14) rfl (ad.add (k * 3)) rfl (txC (xk, uk)) _ HC.out Try.underlying37 rfl (by exact infoTx) ?_
      obtain ⟨Z, hZ⟩ : ∃ Z, Z = idB xk := ⟨_, rfl⟩
      have hZl := idB_len xk
      have C := rid_any F wr xk uk (HIO.out.1.fresh BW1.out) (HIO.out.2.fresh BW1.out) (HW.out xk (List.mem_of_getElem? HX.out))
      rw [← hZ] at C hZl
      have HZ := Lib.hid (And.intro hZ hZl)
      replace C := Lib.hid C
      clear hZ hZl
      go_wp2_with fail
      refine (C.out).mono ?_
      rintro e w2 ⟨rfl, b2⟩
      have B2 := Lib.hid (BW1.out.tr b2)
      clear b2 C
      go_wp2_with (with_reducible refine stopAt 17 ?_)
      refine Stop.go ?_
      refine wpList_buildH rfl 1 _ rfl ([Z]) (H32.one HZ.out.2) rfl (by decide) (by decide) (by kernel_rfl) ?_
      intro w3 pw3 bw3 sw3
      have p3 := pw3
      have b3 := bw3
      clear pw3 bw3 sw3
      have B3 := Lib.hid (B2.out.tr b3)
      have P3 := Lib.hid p3
      clear p3 b3
      go_wp2_with (at_builtin; apply Stop.mk)
      refine Stop.go ?_
      refine wpList_append_rd _ rfl (.tmp 11) (.tmp 17) 22 rfl w.heap.size 24 i0 _ 32 32 Try.underlying22 HINH.out.1 HINH.out.2.1 HINH.out.2.2.1 HINH.out.2.2.2 (by simp [Value.cells]) (by decide) (.slice a3 k c3) k (bvs ((l.take k).map idB).flatten) rfl (by have h := (Ho'.out.fresh B3.out).2; rwa [List.length_map, List.length_take, show min k l.length = k by have := HN.out; have := HK.out; omega] at h) _ 1 _ rfl P3.out.2 (bvs_one _) (by unfold maxLen; have := HK.out; have := HL.out; omega) (by have := HK.out; have := HL.out; omega) (by have := BB.out.size; have := B3.out.size; omega) ?_
      intro v4 w4 hown4 hgr4 _ _
      have B4 : Hid (Below w.heap.size w w4) := Lib.hid ((BB.out.tr B3.out).grown hgr4 (by have := BB.out.size; have := B3.out.size; omega) (fun j hj => (Ho'.out.2.lt j hj).1))
      have O4 : Hid (Ho w4 w.heap.size v4 ((l.take (k + 1)).map idB)) := Lib.hid (by
        have e1 : (l.take (k + 1)).map idB = (l.take k).map idB ++ [Z] := by rw [List.take_add_one, HX.out, HZ.out.1]; simp
        rw [e1]
        refine ⟨Ho'.out.1.append (H32.one HZ.out.2), ?_⟩
        rw [List.flatten_append, bvs_append, List.length_append, List.length_map, List.length_take, show min k l.length = k by have := HN.out; have := HK.out; omega]
        exact hown4)
      clear hown4 hgr4
      go_wp2
      go_roundw
      case rel => exact ⟨k + 1, HK.out, by go_num, O4.out, B4.out⟩
      case measure => simp only [RowKit.intOf]; have := HK.out; omega
    · have ik : ¬ ((k : Int) < (N : Int)) := by omega
      have O4 : Hid (Ho wr w.heap.size (.slice a3 k c3) (l.map idB)) := Lib.hid (by
        have h := Ho'.out
        rwa [List.take_of_length_le (by have := HN.out; omega)] at h)
      clear hlt hk
      go_wp2
      go_ret
      exact ⟨_, rfl, O4.out, BB.out⟩

set_option maxRecDepth 100000 in
set_option maxHeartbeats 2000000 in
theorem broot_any (F : Nat → Prop) (w : World) (v : Value) (l : List TxD) (h : Txs F w v l) (hwf : ∀ x ∈ l, TxWf x) (hl : l.length ≤ 1048576) :
    Calls Try.prog 37 #[v] w fun e w' => e = .returned (.agg (bvs (rootB (l.map idB))).toArray) ∧ Below w.heap.size w w' := by
  obtain ⟨a0, c0, rfl⟩ := h.slice
  obtain ⟨Z, hZ⟩ : ∃ Z, Z = rootB (l.map idB) := ⟨_, rfl⟩
  have HZl : Hid (Z.length = 32) := Lib.hid (by rw [hZ]; exact topB_length _ _)
  rw [← hZ]
  have HZ := Lib.hid hZ
  have H := Lib.hid (And.intro h (And.intro hwf hl))
  obtain ⟨n, hn⟩ : ∃ n, n = l.length := ⟨_, rfl⟩
  have Hn := Lib.hid hn
  rw [← hn]
  clear h hwf hl hZ hn
  go_enter Try.func37, Try.ntmps37
  go_wp2_with fail
  obtain ⟨w1, h1, k1, b1, s1⟩ := alloc_cb w 24 (bvs (List.replicate 32 0))
  change Calls _ _ _ (w.alloc (.cells (bvs (List.replicate 32 0)).toArray 24)) _
  rw [← h1]
  have C := bids_any F w1 (.slice a0 l.length c0) l (H.out.1.fresh b1) H.out.2.1 H.out.2.2
  rw [← Hn.out] at C
  refine (C).mono ?_
  rintro e w2 ⟨v2, rfl, o2, b2⟩
  have hs2 := Lib.hid o2.hs
  have BB := Lib.hid (b1.tr b2)
  have KK := Lib.hid (k1.fresh b2)
  clear o2 b1 b2 k1 s1 h1 C
  have C := mroot_any w2 v2 (l.map idB) hs2.out (by rw [List.length_map]; exact H.out.2.2)
  rw [← HZ.out] at C
  obtain ⟨a2, c2, rfl⟩ := hs2.out.slice
  obtain ⟨m, hm⟩ : ∃ m, m = (l.map idB).length := ⟨_, rfl⟩
  rw [← hm] at C ⊢
  replace C := Lib.hid C
  clear hm
  go_wp2_with fail
  refine (C.out).mono ?_
  rintro e w3 ⟨rfl, b3⟩
  replace BB := Lib.hid (BB.out.tr b3)
  replace KK := Lib.hid (KK.out.fresh b3)
  clear b3 C
  go_wp2_with (with_reducible refine stopStore 24 ?_)
  refine Stop.go ?_
  refine wpList_store_var rfl 24 (.tmp 2) (.tmp 5) rfl (w.heap.size) _ rfl _ (bvs Z) rfl KK.out (by simp [HZl.out]) (bvs_one _) (by rw [bvs_length, HZl.out]; exact infoHash) ?_
  intro wf kf of
  have BF : Hid (Below w.heap.size w wf) := Below.only BB.out of (by omega)
  have KF := Lib.hid kf
  clear kf of
  go_wp2
  exact bodyPost_ret (results_cell1 rfl _ _ (w.heap.size) _ _ _ _ rfl KF.out Try.underlying24 rfl (by simp [HZl.out, infoHash])) rfl ⟨rfl, BF.out⟩

set_option maxRecDepth 100000 in
set_option maxHeartbeats 2000000 in
theorem rbroot_any (F : Nat → Prop) (w : World) (v : Value) (l : List TxD) (h : Txs F w v l) (hwf : ∀ x ∈ l, TxWf x) (hl : l.length ≤ 1048576) :
    Calls Try.prog 38 #[v] w fun e w' => e = .returned (.agg (bvs (rootB (l.map idB))).toArray) ∧ Below w.heap.size w w' := by
  obtain ⟨a0, c0, rfl⟩ := h.slice
  obtain ⟨Z, hZ⟩ : ∃ Z, Z = rootB (l.map idB) := ⟨_, rfl⟩
  have HZl : Hid (Z.length = 32) := Lib.hid (by rw [hZ]; exact topB_length _ _)
  rw [← hZ]
  have HZ := Lib.hid hZ
  have H := Lib.hid (And.intro h (And.intro hwf hl))
  obtain ⟨n, hn⟩ : ∃ n, n = l.length := ⟨_, rfl⟩
  have Hn := Lib.hid hn
  rw [← hn]
  clear h hwf hl hZ hn
  go_enter Try.func38, Try.ntmps38
  go_wp2_with fail
  obtain ⟨w1, h1, k1, b1, s1⟩ := alloc_cb w 24 (bvs (List.replicate 32 0))
  change Calls _ _ _ (w.alloc (.cells (bvs (List.replicate 32 0)).toArray 24)) _
  rw [← h1]
  have C := rbids_any F w1 (.slice a0 l.length c0) l (H.out.1.fresh b1) H.out.2.1 H.out.2.2
  rw [← Hn.out] at C
  refine (C).mono ?_
  rintro e w2 ⟨v2, rfl, o2, b2⟩
  have hs2 := Lib.hid o2.hs
  have BB := Lib.hid (b1.tr b2)
  have KK := Lib.hid (k1.fresh b2)
  clear o2 b1 b2 k1 s1 h1 C
  have C := rroot_any w2 v2 (l.map idB) hs2.out (by rw [List.length_map]; exact H.out.2.2)
  rw [← HZ.out] at C
  obtain ⟨a2, c2, rfl⟩ := hs2.out.slice
  obtain ⟨m, hm⟩ : ∃ m, m = (l.map idB).length := ⟨_, rfl⟩
  rw [← hm] at C ⊢
  replace C := Lib.hid C
  clear hm
  go_wp2_with fail
  refine (C.out).mono ?_
  rintro e w3 ⟨rfl, b3⟩
  replace BB := Lib.hid (BB.out.tr b3)
  replace KK := Lib.hid (KK.out.fresh b3)
  clear b3 C
  go_wp2_with (with_reducible refine stopStore 24 ?_)
  refine Stop.go ?_
  refine wpList_store_var rfl 24 (.tmp 2) (.tmp 5) rfl (w.heap.size) _ rfl _ (bvs Z) rfl KK.out (by simp [HZl.out]) (bvs_one _) (by rw [bvs_length, HZl.out]; exact infoHash) ?_
  intro wf kf of
  have BF : Hid (Below w.heap.size w wf) := Below.only BB.out of (by omega)
  have KF := Lib.hid kf
  clear kf of
  go_wp2
  exact bodyPost_ret (results_cell1 rfl _ _ (w.heap.size) _ _ _ _ rfl KF.out Try.underlying24 rfl (by simp [HZl.out, infoHash])) rfl ⟨rfl, BF.out⟩

end Go.Proofs.Ytkbahhnjoidhcaa

/- block.Check's inner functions: the walks. -/
namespace Go.Proofs.Ytkbahhnjoidhcaa
set_option linter.unusedVariables false
set_option linter.unusedSimpArgs false
open Go.RowKit Go.Lib

/-- What reads stays, where a map is written. -/
theorem hs_map {w w' : World} {v : Value} {l m : List Bs} {M : Nat} (h : Hs w v l) (hm : MapSetH w M m) (ho : Only M w w') : Hs w' v l := by
  refine ⟨h.1, h.2.1, ?_⟩
  rcases h.2.2 with h1 | ⟨ad, c, hv, hn, hc, hcell⟩
  · exact .inl h1
  · refine .inr ⟨ad, c, hv, hn, hc, fun j u hj => ?_⟩
    have h2 := hcell j u hj
    obtain ⟨_, es, clock, hb, _⟩ := hm
    have hne : (ad.add j).block ≠ M := fun e => by
      unfold World.cell? at h2
      rw [e, hb] at h2
      simp at h2
    unfold World.cell? at h2 ⊢
    rw [ho.block _ hne]
    exact h2

def badT (t : TxD) : Bool := !decide (checkE t = 0)

set_option maxRecDepth 100000 in
theorem bchk1_any (F : Nat → Prop) (w : World) (x : TxD) (u : Value × Value) (hi : Ins F w u.1 x.ins) (ho : Outs F w u.2 x.outs) (hwf : TxWf x) :
    Calls Try.prog 74 #[.agg (txC (x, u)).toArray] w fun e w' => e = .returned (.bool (badT x)) ∧ Below w.heap.size w w' := by
  obtain ⟨u1, u2⟩ := u
  change Calls _ _ #[.agg #[u1, u2, .int .u64 x.nonce]] _ _
  obtain ⟨a0, c0, he⟩ := hi.slice
  change u1 = _ at he
  subst he
  obtain ⟨a2, c2, he⟩ := ho.slice
  change u2 = _ at he
  subst he
  obtain ⟨N, hN⟩ : ∃ N, N = x.ins.length := ⟨_, rfl⟩
  obtain ⟨K, hK⟩ : ∃ K, K = x.outs.length := ⟨_, rfl⟩
  rw [← hN] at hi
  rw [← hK] at ho
  rw [← hN, ← hK]
  have HI := Lib.hid hi
  have HO := Lib.hid ho
  have HW := Lib.hid hwf
  have HI0 : Hid (Ins F w ((Value.slice a0 N c0, Value.slice a2 K c2) : Value × Value).1 x.ins) := HI
  have HO0 : Hid (Outs F w ((Value.slice a0 N c0, Value.slice a2 K c2) : Value × Value).2 x.outs) := HO
  have C := fun w' (hb : Below w.heap.size w w') => may_any F w' x (.slice a0 N c0, .slice a2 K c2) (HI0.out.fresh hb) (HO0.out.fresh hb) hwf
  obtain ⟨D, hD⟩ : ∃ D, D = decide (checkE x = 0) := ⟨_, rfl⟩
  unfold badT
  rw [← hD] at C ⊢
  replace C := Lib.hid C
  clear hN hK hi ho hwf hD
  go_enter Try.func74, Try.ntmps74
  go_wp2_with (with_reducible refine stopAt 3 ?_)
  refine Stop.go ?_
  obtain ⟨w1, h1, k1, b1, s1⟩ := alloc_cb w 37 [.slice a0 N c0, .slice a2 K c2, .int .u64 x.nonce]
  change wpList _ _ _ _ _ (w.alloc (.cells [.slice a0 N c0, .slice a2 K c2, .int .u64 x.nonce].toArray 37))
  rw [← h1]
  have K1 : Hid (CB w1 37 w.heap.size [.slice a0 N c0, .slice a2 K c2, .int .u64 x.nonce]) := Lib.hid k1
  have BB := Lib.hid b1
  clear h1 k1 b1 s1
  refine wpList_load_agg rfl 37 (.tmp 1) rfl ⟨w.heap.size, 0, none⟩ rfl [.slice a0 N c0, .slice a2 K c2, .int .u64 x.nonce] _ (At.block K1.out).load Try.underlying37 rfl (by exact infoTx) ?_
  go_wp2_with fail
  refine (C.out w1 BB.out).mono ?_
  rintro e w3 ⟨rfl, b3⟩
  replace BB := Lib.hid (BB.out.tr b3)
  clear b3 C
  cases D
  · go_wp2
    go_ret
    exact ⟨rfl, BB.out⟩
  · go_wp2
    go_ret
    exact ⟨rfl, BB.out⟩

set_option maxRecDepth 100000 in
set_option maxHeartbeats 4000000 in
theorem indexTx_any (F : Nat → Prop) (w : World) (v : Value) (l : List TxD) (h : Txs F w v l) (hwf : ∀ x ∈ l, TxWf x) :
    Calls Try.prog 99 #[v, .func (.func 74) #[] #[]] w fun e w' => (∃ r : Int, e = .returned (.int .i64 r) ∧ decide (0 ≤ r) = l.any badT) ∧ Below w.heap.size w w' := by
  obtain ⟨a0, c0, rfl⟩ := h.slice
  obtain ⟨N, hN⟩ : ∃ N, N = l.length := ⟨_, rfl⟩
  obtain ⟨us, hlu, hru, heu⟩ := h
  rw [← hN] at hlu hru
  rw [← hN]
  change RdF F w 3 (.slice a0 N c0) N _ at hru
  have bN' : (N : Int) ≤ 9223372036854775807 := rd_small' hru.1
  have HI := Lib.hid hru.1
  have HE := Lib.hid heu
  have HL := Lib.hid (And.intro hN (And.intro hlu hwf))
  clear hN hlu hru heu hwf
  go_enter Try.func99, Try.ntmps99
  go_wp2
  go_loopw [8] (fun v8 wr => Below w.heap.size w wr ∧ ∃ k : Nat, k ≤ N ∧ v8 = .int .i64 (k : Int) ∧ (l.take k).any badT = false)
    (fun v _ => N - (RowKit.intOf v).toNat)
  case atStart => exact ⟨Below.refl _ _, 0, Nat.zero_le _, rfl, rfl⟩
  case round =>
    obtain ⟨hb, k, hk, rfl, hn⟩ := hrel
    have BB := Lib.hid hb
    have NN := Lib.hid hn
    clear hb hn
    by_cases hlt : k < N
    · obtain ⟨xk, hx⟩ : ∃ z, l[k]? = some z := ⟨_, List.getElem?_eq_getElem (by rw [← HL.out.1]; exact hlt)⟩
      obtain ⟨uk, hux⟩ : ∃ z, us[k]? = some z := ⟨_, List.getElem?_eq_getElem (by rw [HL.out.2.1]; exact hlt)⟩
      obtain ⟨ad, c, he⟩ := rd_some HI.out (by omega)
      simp only [Value.slice.injEq, true_and] at he
      obtain ⟨rfl, rfl⟩ := he
      have hz : (l.zip us)[k]? = some (xk, uk) := by rw [List.getElem?_zip_eq_some]; exact ⟨hx, hux⟩
      have h9 := HE.out k xk uk hx hux
      have HC := Lib.hid ((HI.out.fresh BB.out).at (fun z _ => rfl) hz)
      have HX := Lib.hid hx
      have ik : (k : Int) < (N : Int) := by omega
      have HK := Lib.hid hlt
      have C := bchk1_any F wr xk uk (h9.1.fresh BB.out) (h9.2.fresh BB.out) (HL.out.2.2 xk (List.mem_of_getElem? hx))
      obtain ⟨B, hB⟩ : ∃ B, B = badT xk := ⟨_, rfl⟩
      rw [← hB] at C
      replace C := Lib.hid C
      have HB := Lib.hid hB
      clear hx hux hz h9 hlt hk hB
      go_wp2_with (with_reducible refine stopAt 15 ?_)
      refine Stop.go ?_
      refine wpList_load_agg rfl 37 (.tmp 14) rfl (ad.add (k * 3)) rfl (txC (xk, uk)) _ HC.out Try.underlying37 rfl (by exact infoTx) ?_
      go_wp2_with fail
      refine (C.out).mono ?_
      rintro e w2 ⟨rfl, b2⟩
      have Q := Lib.hid (BB.out.tr b2)
      clear b2 C HC
      cases B
      · have hn2 := Lib.hid (show (l.take (k + 1)).any badT = false by
          rw [List.take_add_one, HX.out, Option.toList, List.any_append, NN.out]
          simp [← HB.out])
        go_wp2
        go_roundw
        case rel => exact ⟨Q.out, k + 1, HK.out, by go_num, hn2.out⟩
        case measure => simp only [RowKit.intOf]; have := HK.out; omega
      · have hy2 := Lib.hid (show l.any badT = true by
          rw [List.any_eq_true]
          exact ⟨xk, List.mem_of_getElem? HX.out, HB.out.symm⟩)
        go_wp2
        go_ret
        exact ⟨⟨_, rfl, by rw [hy2.out, decide_eq_true]; exact Int.natCast_nonneg k⟩, Q.out⟩
    · have ik : ¬ ((k : Int) < (N : Int)) := by omega
      have hn2 := Lib.hid (show l.any badT = false by
        have h := NN.out
        rwa [List.take_of_length_le (by rw [← HL.out.1]; omega)] at h)
      clear hlt hk
      go_wp2
      go_ret
      exact ⟨⟨_, rfl, by rw [hn2.out]; rfl⟩, BB.out⟩

set_option maxRecDepth 100000 in
theorem containsTx_any (F : Nat → Prop) (w : World) (v : Value) (l : List TxD) (h : Txs F w v l) (hwf : ∀ x ∈ l, TxWf x) :
    Calls Try.prog 76 #[v, .func (.func 74) #[] #[]] w fun e w' => e = .returned (.bool (l.any badT)) ∧ Below w.heap.size w w' := by
  have C := Lib.hid (indexTx_any F w v l h hwf)
  obtain ⟨B, hB⟩ : ∃ B, B = l.any badT := ⟨_, rfl⟩
  rw [← hB] at C ⊢
  obtain ⟨a0, c0, rfl⟩ := h.slice
  clear h hwf hB
  go_enter Try.func76, Try.ntmps76
  go_wp2_with fail
  refine (C.out).mono ?_
  rintro e w2 ⟨⟨r, rfl, hr⟩, b2⟩
  have HR := Lib.hid hr
  have Q := Lib.hid b2
  clear hr b2 C
  go_wp2
  go_ret
  exact ⟨by rw [← HR.out] <;> rfl, Q.out⟩

/-- What is asked of a block, one behind the other. -/
def bE1 (b : BlD) : Int := if (decide (255 < b.hd.par.length) || b.txs.any badT) = true then 2 else 0
def bE2 (b : BlD) : Int := if 200 < b.txs.length then 8 else 0
def bE3 (b : BlD) : Int := if UnlikeH (b.txs.map idB) then 0 else 7
def bE4 (b : BlD) : Int := if rootB (b.txs.map idB) = b.hd.root then 0 else 11
def blockE (b : BlD) : Int := if bE1 b ≠ 0 then bE1 b else if bE2 b ≠ 0 then bE2 b else if bE3 b ≠ 0 then bE3 b else bE4 b

/-- What a block's check may lean on. -/
structure BlAt (F : Nat → Prop) (w : World) (g : Nat) (b : BlD) (v t : Value) : Prop where
  cb : CB w 30 g (blC b v t)
  ok : HdOk b.hd
  hs : Hs w v b.hd.par
  tx : Txs F w t b.txs
  wf : ∀ x ∈ b.txs, TxWf x
  sm : b.txs.length ≤ 1048576

theorem BlAt.fresh {F : Nat → Prop} {w w' : World} {g : Nat} {b : BlD} {v t : Value} (h : BlAt F w g b v t) (hb : Below w.heap.size w w') : BlAt F w' g b v t := ⟨h.cb.fresh hb, h.ok, h.hs.fresh hb, h.tx.fresh hb, h.wf, h.sm⟩

set_option maxRecDepth 100000 in
set_option maxHeartbeats 2000000 in
theorem bchk2_any (F : Nat → Prop) (w : World) (g gb : Nat) (b : BlD) (v t : Value) (h : BlAt F w g b v t) (hq : CB w 56 gb [.func (.func 74) #[] #[]]) :
    Calls Try.prog 75 #[.pointer (some ⟨g, 0, none⟩), .pointer (some ⟨gb, 0, none⟩)] w fun e w' => e = .returned (.int .i64 (bE1 b)) ∧ Below w.heap.size w w' := by
  obtain ⟨a0, c0, rfl⟩ := h.hs.slice
  obtain ⟨a1, c1, rfl⟩ := h.tx.slice
  have hc0 := hd_cell (At.pre (At.block h.cb))
  have hc1 := bl_cell (At.block h.cb) h.ok
  have hcq := hq.cell 0 _ rfl
  have C := containsTx_any F w _ b.txs h.tx h.wf
  obtain ⟨B, hB⟩ : ∃ B, B = b.txs.any badT := ⟨_, rfl⟩
  rw [← hB] at C
  obtain ⟨P, hP⟩ : ∃ P, P = b.hd.par.length := ⟨_, rfl⟩
  obtain ⟨N, hN⟩ : ∃ N, N = b.txs.length := ⟨_, rfl⟩
  rw [← hN] at C hc1
  rw [← hP] at hc0
  obtain ⟨R, hR⟩ : ∃ R, R = bE1 b := ⟨_, rfl⟩
  rw [← hR]
  unfold bE1 at hR
  rw [← hB, ← hP] at hR
  have HR := Lib.hid hR
  replace C := Lib.hid C
  clear h hq hB hP hN hR
  by_cases h1 : 255 < P
  · have i1 : (255 : Int) < (P : Int) := by omega
    have hr : Hid (R = 2) := Lib.hid (by rw [HR.out, decide_eq_true h1]; rfl)
    clear h1
    go_enter Try.func75, Try.ntmps75
    go_wp2
    go_ret
    exact ⟨by rw [hr.out] <;> rfl, by repeat (first | exact Below.refl _ _ | apply Below.drew)⟩
  · have i1 : ¬ (255 : Int) < (P : Int) := by omega
    have hr : Hid (R = if B = true then 2 else 0) := Lib.hid (by rw [HR.out, decide_eq_false h1, Bool.false_or])
    clear h1
    go_enter Try.func75, Try.ntmps75
    go_wp2_with fail
    refine (C.out).mono ?_
    rintro e w2 ⟨rfl, b2⟩
    have Q := Lib.hid b2
    clear b2 C
    cases B
    · go_wp2
      go_ret
      exact ⟨by rw [hr.out] <;> rfl, Q.out⟩
    · go_wp2
      go_ret
      exact ⟨by rw [hr.out] <;> rfl, Q.out⟩

set_option maxRecDepth 100000 in
theorem bchk3_any (F : Nat → Prop) (w : World) (g : Nat) (b : BlD) (v t : Value) (h : BlAt F w g b v t) :
    Calls Try.prog 77 #[.pointer (some ⟨g, 0, none⟩)] w fun e w' => e = .returned (.int .i64 (bE2 b)) ∧ Below w.heap.size w w' := by
  obtain ⟨a1, c1, rfl⟩ := h.tx.slice
  have hc1 := bl_cell (At.block h.cb) h.ok
  obtain ⟨N, hN⟩ : ∃ N, N = b.txs.length := ⟨_, rfl⟩
  rw [← hN] at hc1
  obtain ⟨R, hR⟩ : ∃ R, R = bE2 b := ⟨_, rfl⟩
  rw [← hR]
  unfold bE2 at hR
  rw [← hN] at hR
  have HR := Lib.hid hR
  clear h hN hR
  by_cases h1 : 200 < N
  · have i1 : (200 : Int) < (N : Int) := by omega
    have hr : Hid (R = 8) := Lib.hid (by rw [HR.out, if_pos h1])
    clear h1
    go_enter Try.func77, Try.ntmps77
    go_wp2
    go_ret
    exact ⟨by rw [hr.out] <;> rfl, Below.refl _ _⟩
  · have i1 : ¬ (200 : Int) < (N : Int) := by omega
    have hr : Hid (R = 0) := Lib.hid (by rw [HR.out, if_neg h1])
    clear h1
    go_enter Try.func77, Try.ntmps77
    go_wp2
    go_ret
    exact ⟨by rw [hr.out] <;> rfl, Below.refl _ _⟩

theorem ids_h32 (l : List TxD) : H32 (l.map idB) := by
  intro x hx
  obtain ⟨y, _, rfl⟩ := List.mem_map.1 hx
  exact idB_len y

set_option maxRecDepth 100000 in
set_option maxHeartbeats 4000000 in
theorem bchk4_any (F : Nat → Prop) (w : World) (g : Nat) (b : BlD) (v t : Value) (h : BlAt F w g b v t) :
    Calls Try.prog 78 #[.pointer (some ⟨g, 0, none⟩)] w fun e w' => e = .returned (.int .i64 (bE3 b)) ∧ Below w.heap.size w w' := by
  obtain ⟨a1, c1, rfl⟩ := h.tx.slice
  obtain ⟨l, hl⟩ : ∃ l, l = b.txs.map idB := ⟨_, rfl⟩
  have hl32 : H32 l := by rw [hl]; exact ids_h32 _
  obtain ⟨N, hN⟩ : ∃ N, N = b.txs.length := ⟨_, rfl⟩
  have hlN : l.length = N := by rw [hl, hN, List.length_map]
  obtain ⟨R, hR⟩ : ∃ R, R = bE3 b := ⟨_, rfl⟩
  rw [← hR]
  unfold bE3 at hR
  rw [← hl] at hR
  have HR := Lib.hid hR
  have H := Lib.hid h
  have HL := Lib.hid (And.intro hl32 hlN)
  have C := fun w' (hb : Below w.heap.size w w') => bids_any F w' _ b.txs (h.tx.fresh hb) h.wf h.sm
  rw [← hl, ← hN] at C
  replace C := Lib.hid C
  rw [← hN] at H
  have hN6 : Hid (N ≤ 1048576) := Lib.hid (by rw [hN]; exact h.sm)
  have bN' : (N : Int) ≤ 9223372036854775807 := by have := hN6.out; omega
  clear h hl hN hR hl32 hlN
  have hmm := @run_makeMap Try.prog
  go_enter Try.func78, Try.ntmps78
  go_wp2_with (with_reducible refine stopAt 6 ?_)
  refine Stop.go ?_
  clear hmm
  obtain ⟨w1, hw1⟩ : ∃ w1, w1 = w.alloc (.map #[] 0) := ⟨_, rfl⟩
  have hM := MapSetH.new w
  have b1 : Below w.heap.size w w1 := by rw [hw1]; exact (Below.refl _ w).alloc (Nat.le_refl _) _
  rw [← hw1] at hM ⊢
  obtain ⟨M, hMM⟩ : ∃ M, M = w.heap.size := ⟨_, rfl⟩
  have HMM : Hid (M = w.heap.size) := Lib.hid hMM
  rw [← hMM] at hM ⊢
  have KM := Lib.hid hM
  have BB := Lib.hid b1
  have hc1 := bl_cell (At.block (H.out.cb.fresh b1)) H.out.ok
  clear hM b1 hw1 hMM
  go_wp2_with fail
  refine (C.out w1 BB.out).mono ?_
  rintro e w2 ⟨v2, rfl, o2, b2⟩
  obtain ⟨a2, c2, rfl⟩ := o2.hs.slice' HL.out.2
  have HS := Lib.hid o2.hs
  replace BB := Lib.hid (BB.out.tr b2)
  replace KM := Lib.hid (KM.out.fresh b2)
  clear o2 b2 hc1 C
  go_wp2
  go_loopw [4, 10] (fun v4 v10 wr => Below w.heap.size w wr ∧ Hs wr (.slice a2 N c2) l ∧ ∃ k : Nat, k ≤ N ∧ v10 = .int .i64 (k : Int) ∧ MapSetH wr M (l.take k) ∧ UnlikeH (l.take k))
    (fun _ v _ => N - (RowKit.intOf v).toNat)
  case atStart => exact ⟨BB.out, HS.out, 0, Nat.zero_le _, rfl, KM.out, List.Pairwise.nil⟩
  case round =>
    obtain ⟨hb, hsl, k, hk, rfl, hm, hu⟩ := hrel
    replace BB := Lib.hid hb
    replace KM := Lib.hid hm
    replace HS := Lib.hid hsl
    have HU := Lib.hid hu
    clear hb hm hsl hu
    by_cases hlt : k < N
    · obtain ⟨xk, hx⟩ : ∃ z, l[k]? = some z := ⟨_, List.getElem?_eq_getElem (by rw [HL.out.2]; exact hlt)⟩
      obtain ⟨ad, c, he⟩ := HS.out.isSome HL.out.2 (by omega)
      simp only [Value.slice.injEq, true_and] at he
      obtain ⟨rfl, rfl⟩ := he
      have HX := Lib.hid (And.intro hx (HL.out.1.get hx))
      have ik : (k : Int) < (N : Int) := by omega
      have HK := Lib.hid hlt
      clear hx hlt hk
      go_wp2_with (with_reducible refine stopAt 13 ?_)
      refine Stop.go ?_
      refine wpList_load_agg rfl 24 (.tmp 12) rfl (ad.add (k * 32)) rfl (bvs xk) _ (HS.out.elem' HX.out.1) Try.underlying24 rfl (by rw [bvs_length, HX.out.2]; exact infoHash) ?_
      go_wp2_with (with_reducible refine stopStore 24 ?_)
      refine Stop.go ?_
      refine wpList_store_var rfl 24 (.tmp 4) (.tmp 13) rfl wr.heap.size _ rfl _ (bvs xk) rfl (heap_alloc_new wr _) (by simp [HX.out.2]) (bvs_one _) (by rw [bvs_length, HX.out.2]; exact infoHash) ?_
      intro w5 kw5 ow5
      have bw5 : Below wr.heap.size wr w5 := Below.only ((Below.refl _ wr).alloc (Nat.le_refl _) _) ow5 (Nat.le_refl _)
      replace kw5 : CB w5 24 wr.heap.size (bvs xk) := kw5
      clear ow5
      obtain ⟨G5, hG5⟩ : ∃ g, g = wr.heap.size := ⟨_, rfl⟩
      rw [← hG5] at kw5 ⊢
      have KG := Lib.hid kw5
      replace BB := Lib.hid (BB.out.tr bw5)
      replace KM := Lib.hid (KM.out.fresh bw5)
      replace HS := Lib.hid (HS.out.fresh bw5)
      clear kw5 bw5 hG5
      go_wp2_with (with_reducible refine stopAt 15 ?_)
      refine Stop.go ?_
      refine wpList_load_agg rfl 24 (.tmp 4) rfl (⟨G5, 0, none⟩) rfl (bvs xk) _ ((At.block KG.out).load) Try.underlying24 rfl (by rw [bvs_length, HX.out.2]; exact infoHash) ?_
      go_wp2_with (with_reducible refine stopAt 16 ?_)
      refine Stop.go ?_
      refine wpList_lookup_h rfl (.tmp 14) (.tmp 15) rfl M _ xk rfl rfl KM.out HX.out.2 ?_
      have hfd := run_field_h
      cases hB : inSetH (l.take k) xk with
      | true =>
        have hno : Hid (R = 7) := Lib.hid (by rw [HR.out, if_neg (unlikeH_not HX.out.1 hB)])
        clear hB
        go_wp2
        go_ret
        exact ⟨by rw [hno.out] <;> rfl, BB.out⟩
      | false =>
        have HB := Lib.hid hB
        clear hB
        go_wp2_with (with_reducible refine stopAt 19 ?_)
        refine Stop.go ?_
        clear hfd
        refine wpList_load_agg rfl 24 (.tmp 4) rfl (⟨G5, 0, none⟩) rfl (bvs xk) _ ((At.block KG.out).load) Try.underlying24 rfl (by rw [bvs_length, HX.out.2]; exact infoHash) ?_
        go_wp2_with (at_mapUpdate; apply Stop.mk)
        refine Stop.go ?_
        refine wpList_update_h rfl (.tmp 18) (.tmp 19) (.tmp 20) rfl M _ xk rfl rfl rfl KM.out HX.out.2 ?_
        intro w6 m6 o6
        rw [if_neg (by rw [HB.out]; simp)] at m6
        have Q1 : Hid (Below w.heap.size w w6) := Lib.hid (Below.only BB.out o6 (by rw [HMM.out]; exact Nat.le_refl _))
        have Q2 : Hid (MapSetH w6 M (l.take (k + 1))) := Lib.hid (by rw [List.take_add_one, HX.out.1]; exact m6)
        have Q3 := Lib.hid (unlikeH_next HX.out.1 HU.out HB.out)
        have Q4 : Hid (Hs w6 (.slice (some ad) N c2) l) := Lib.hid (hs_map HS.out KM.out o6)
        clear m6 o6
        go_wp2
        go_roundw
        case rel => exact ⟨Q1.out, Q4.out, k + 1, HK.out, by go_num, Q2.out, Q3.out⟩
        case measure => simp only [RowKit.intOf]; have := HK.out; omega
    · have ik : ¬ ((k : Int) < (N : Int)) := by omega
      have hyes : Hid (R = 0) := Lib.hid (by
        have h1 := HU.out
        rw [List.take_of_length_le (by rw [HL.out.2]; omega)] at h1
        rw [HR.out, if_pos h1])
      clear hlt hk
      go_wp2
      go_ret
      exact ⟨by rw [hyes.out] <;> rfl, BB.out⟩

end Go.Proofs.Ytkbahhnjoidhcaa

/- block.Check's fifth inner function, block.Check: the walks. -/
namespace Go.Proofs.Ytkbahhnjoidhcaa
set_option linter.unusedVariables false
set_option linter.unusedSimpArgs false
open Go.RowKit Go.Lib

set_option maxRecDepth 100000 in
set_option maxHeartbeats 2000000 in
theorem bchk5_any (F : Nat → Prop) (w : World) (g : Nat) (b : BlD) (v t : Value) (h : BlAt F w g b v t) :
    Calls Try.prog 80 #[.pointer (some ⟨g, 0, none⟩)] w fun e w' => e = .returned (.int .i64 (bE4 b)) ∧ Below w.heap.size w w' := by
  have C := fun w' (hb : Below w.heap.size w w') => broot_any F w' t b.txs (h.tx.fresh hb) h.wf h.sm
  obtain ⟨Z, hZ⟩ : ∃ Z, Z = rootB (b.txs.map idB) := ⟨_, rfl⟩
  have HZl : Hid (Z.length = 32) := Lib.hid (by rw [hZ]; exact topB_length _ _)
  rw [← hZ] at C
  obtain ⟨R, hR⟩ : ∃ R, R = bE4 b := ⟨_, rfl⟩
  rw [← hR]
  unfold bE4 at hR
  rw [← hZ] at hR
  have HR := Lib.hid hR
  have HOK := Lib.hid h.ok
  replace C := Lib.hid C
  have hS : Hid (CB w.drew 30 g (blC b v t)) := Lib.hid h.cb.drew
  clear h hR hZ
  go_enter Try.func80, Try.ntmps80
  go_wp2_with fail
  refine pl_start 7 rfl (fun w' => CB w' 30 g (blC b v t)) (by kernel_rfl) ?_
  refine pl_take (i := 0) 2 rfl rfl rfl (by kernel_rfl) (by kernel_rfl) (by kernel_rfl) (by simp [Act.put]) hS.out ?_
  apply Exists.intro
  refine And.intro (fun w' hS' => ?_) ?_
  · go_wp2
    first
      | exact ⟨trivial, rfl⟩
      | exact rfl
  refine pl_take (i := 1) 3 rfl rfl rfl (by kernel_rfl) (by kernel_rfl) (by kernel_rfl) (by simp [Act.put]) hS.out ?_
  apply Exists.intro
  refine And.intro (fun w' hS' => ?_) ?_
  · have hc := bl_cell (At.block hS') HOK.out
    clear hS'
    go_wp2
    exact ⟨trivial, rfl⟩
  refine pl_take (i := 3) 5 rfl rfl rfl (by kernel_rfl) (by kernel_rfl) (by kernel_rfl) (by simp [Act.put]) hS.out ?_
  apply Exists.intro
  refine And.intro (fun w' hS' => ?_) ?_
  · go_wp2
    first
      | exact ⟨trivial, rfl⟩
      | exact rfl
  refine pl_take (i := 4) 6 rfl rfl rfl (by kernel_rfl) (by kernel_rfl) (by kernel_rfl) (by simp [Act.put]) hS.out ?_
  apply Exists.intro
  refine And.intro (fun w' hS' => ?_) ?_
  · go_wp2
    first
      | exact ⟨trivial, rfl⟩
      | exact rfl
  refine pl_take (i := 5) 7 rfl rfl rfl (by kernel_rfl) (by kernel_rfl) (by kernel_rfl) (by simp [Act.put]) hS.out ?_
  apply Exists.intro
  refine And.intro (fun w' hS' => ?_) ?_
  · have hr := (hd_at (At.pre (At.block hS')) HOK.out).2.1
    refine wpList_load_agg rfl 24 (.tmp 6) rfl ⟨g, 1, none⟩ rfl (bvs b.hd.root) _ hr.load Try.underlying24 rfl (by rw [bvs_length, HOK.out.1]; exact infoHash) ?_
    clear hS' hr
    go_wp2
    exact ⟨trivial, rfl⟩
  refine pl_heavy (i := 2) rfl (by kernel_rfl) ?_
  go_wp2_with fail
  refine (C.out w.drew ((Below.refl _ w).drew)).mono ?_
  rintro e w2 ⟨rfl, b2⟩
  replace hS := Lib.hid (hS.out.fresh b2)
  have BB : Hid (Below w.heap.size w w2) := Lib.hid (((Below.refl _ w).drew).tr b2)
  clear b2 C
  go_wp2
  refine And.intro hS.out ?_
  refine pl_take (i := 6) 8 rfl rfl rfl (by kernel_rfl) (by kernel_rfl) (by kernel_rfl) (by simp [Act.put]) hS.out ?_
  apply Exists.intro
  refine And.intro (fun w' hS' => ?_) ?_
  · refine wpList_bin rfl .neq 24 24 (.tmp 4) (.tmp 7) rfl (.bool (Z != b.hd.root)) (eqGuard_agg _ _ _ _ _ _ _ (by kernel_rfl)) (hash_ne w' Z b.hd.root HZl.out HOK.out.1) ?_
    clear hS'
    go_wp2
    exact ⟨trivial, rfl⟩
  refine pl_done (by kernel_rfl) ?_
  cases hq : (Z != b.hd.root)
  · have hr : Hid (R = 0) := Lib.hid (by rw [HR.out, if_pos (by simpa using hq)])
    clear hq
    go_wp2
    go_ret
    exact ⟨by rw [hr.out] <;> rfl, BB.out⟩
  · have hr : Hid (R = 11) := Lib.hid (by rw [HR.out, if_neg (by simpa using hq)])
    clear hq
    go_wp2
    go_ret
    exact ⟨by rw [hr.out] <;> rfl, BB.out⟩

theorem infoFn : (Try.prog.info? 56).map (·.size) = some 1 := by kernel_rfl

set_option maxRecDepth 100000 in
set_option maxHeartbeats 2000000 in
theorem bcheck_any (F : Nat → Prop) (w : World) (b : BlD) (v t : Value) (hx : HdOk b.hd) (hv : Hs w v b.hd.par) (ht : Txs F w t b.txs) (hwf : ∀ x ∈ b.txs, TxWf x) (hl : b.txs.length ≤ 1048576) :
    Calls Try.prog 36 #[.agg (blC b v t).toArray] w fun e w' => e = .returned (.int .i64 (blockE b)) ∧ Below w.heap.size w w' := by
  obtain ⟨X, hX⟩ : ∃ X, X = blC b v t := ⟨_, rfl⟩
  rw [← hX]
  have HX := Lib.hid hX
  have HH := Lib.hid (And.intro hx (And.intro hv (And.intro ht (And.intro hwf hl))))
  obtain ⟨R, hR⟩ : ∃ R, R = blockE b := ⟨_, rfl⟩
  rw [← hR]
  unfold blockE at hR
  have HR := Lib.hid hR
  clear hX hx hv ht hwf hl hR
  go_enter Try.func36, Try.ntmps36
  go_wp2_with (with_reducible refine stopAt 3 ?_)
  refine Stop.go ?_
  obtain ⟨w1, h1, k1, b1, s1⟩ := alloc_cb w 30 X
  change wpList _ _ _ _ _ (w.alloc (.cells X.toArray 30))
  rw [← h1]
  have K1 := Lib.hid k1
  have BB := Lib.hid b1
  clear h1 k1 b1 s1
  obtain ⟨g, hg⟩ : ∃ g, g = w.heap.size := ⟨_, rfl⟩
  have HG := Lib.hid hg
  rw [← hg] at K1 ⊢
  clear hg
  go_wp2_with (with_reducible refine stopStore 56 ?_)
  refine Stop.go ?_
  refine wpList_store_one rfl 56 (.tmp 3) (.func 74) rfl w1.heap.size rfl (by rfl) 56 _ (heap_alloc_new w1 _) infoFn ?_
  obtain ⟨w2, h2⟩ : ∃ w2, w2 = (w1.alloc (.cells #[.nilFunc] 56)).setRow w1.heap.size #[.func (.func 74) #[] #[]] := ⟨_, rfl⟩
  have o2 : Only w1.heap.size (w1.alloc (.cells #[.nilFunc] 56)) w2 := by rw [h2]; exact ⟨rfl, rfl, rfl, by simp, fun k hk => setRow_other _ _ _ _ hk⟩
  have k2 : CB w2 56 w1.heap.size [.func (.func 74) #[] #[]] := by
    rw [h2]
    exact setRow_heap _ _ _ _ _ _ (heap_alloc_new w1 _)
  have b2 : Below w1.heap.size w1 w2 := Below.only ((Below.refl _ w1).alloc (Nat.le_refl _) _) o2 (Nat.le_refl _)
  change wpList _ _ _ _ _ ((w1.alloc (.cells #[.nilFunc] 56)).setRow w1.heap.size #[.func (.func 74) #[] #[]])
  rw [← h2]
  replace K1 := Lib.hid (K1.out.fresh b2)
  replace BB := Lib.hid (BB.out.tr b2)
  have K2 := Lib.hid k2
  clear h2 o2 k2 b2
  obtain ⟨gb, hgb⟩ : ∃ g, g = w1.heap.size := ⟨_, rfl⟩
  rw [← hgb] at K2 ⊢
  clear hgb
  obtain ⟨w3, h3, k3, b3, s3⟩ := alloc_cb w2 112 [.func (.func 75) #[] #[.pointer (some ⟨g, 0, none⟩), .pointer (some ⟨gb, 0, none⟩)], .func (.func 77) #[] #[.pointer (some ⟨g, 0, none⟩)], .func (.func 78) #[] #[.pointer (some ⟨g, 0, none⟩)], .func (.func 80) #[] #[.pointer (some ⟨g, 0, none⟩)]]
  have H3 := Lib.hid h3
  clear h3
  replace K1 := Lib.hid (K1.out.fresh b3)
  replace K2 := Lib.hid (K2.out.fresh b3)
  replace BB := Lib.hid (BB.out.tr b3)
  have K3 := Lib.hid k3
  clear k3 b3 s3
  have HA : Hid (BlAt F w3 g b v t) := Lib.hid ⟨by rw [← HX.out]; exact K1.out, HH.out.1, HH.out.2.1.fresh BB.out, HH.out.2.2.1.fresh BB.out, HH.out.2.2.2.1, HH.out.2.2.2.2⟩
  clear K1 HH HX
  go_wp2
  go_loopw [15] (fun v15 wr => Below w3.heap.size w3 wr ∧ ∃ k : Nat, k ≤ 4 ∧ v15 = .int .i64 (k : Int) ∧ (1 ≤ k → bE1 b = 0) ∧ (2 ≤ k → bE2 b = 0) ∧ (3 ≤ k → bE3 b = 0) ∧ (4 ≤ k → bE4 b = 0))
    (fun v _ => 4 - (RowKit.intOf v).toNat)
  case atStart => exact ⟨by rw [H3.out]; exact Below.refl _ _, 0, by omega, rfl, fun h => by omega, fun h => by omega, fun h => by omega, fun h => by omega⟩
  case round =>
    obtain ⟨hb, k, hk, rfl, g1, g2, g3, g4⟩ := hrel
    have HB := Lib.hid hb
    have K := Lib.hid (K3.out.fresh hb)
    have HGG := Lib.hid (And.intro g1 (And.intro g2 (And.intro g3 g4)))
    clear hb g1 g2 g3 g4
    have hk4 : k = 0 ∨ k = 1 ∨ k = 2 ∨ k = 3 ∨ k = 4 := by omega
    clear hk
    rcases hk4 with rfl | rfl | rfl | rfl | rfl
    · have hc := K.out.cell 0 _ rfl
      have C := bchk2_any F wr g gb b v t (HA.out.fresh HB.out) (K2.out.fresh HB.out)
      obtain ⟨E, hE⟩ : ∃ E, E = bE1 b := ⟨_, rfl⟩
      rw [← hE] at C
      replace C := Lib.hid C
      have HE := Lib.hid hE
      clear hE
      go_wp2_with fail
      refine (C.out).mono ?_
      rintro e w4 ⟨rfl, b4⟩
      have Q := Lib.hid (HB.out.tr b4)
      clear b4 hc C
      by_cases hz : E = 0
      · have hz0 : Hid (bE1 b = 0) := Lib.hid (by rw [← HE.out]; exact hz)
        subst hz
        go_wp2
        go_roundw
        case rel => exact ⟨Q.out, 1, by omega, rfl, fun _ => hz0.out, by omega, by omega, by omega⟩
        case measure => simp only [RowKit.intOf]; omega
      · have hr : Hid (R = E) := Lib.hid (by
          have hz1 : ¬ bE1 b = 0 := by rw [← HE.out]; exact hz
          rw [HR.out, HE.out]; simp [hz1])
        have hz2 : (E == 0) = false := by rw [beq_eq_false_iff_ne]; exact hz
        clear hz
        go_wp2
        go_ret
        exact ⟨by rw [hr.out] <;> rfl, BB.out.tr Q.out⟩
    · have hc := K.out.cell 1 _ rfl
      have C := bchk3_any F wr g b v t (HA.out.fresh HB.out)
      obtain ⟨E, hE⟩ : ∃ E, E = bE2 b := ⟨_, rfl⟩
      rw [← hE] at C
      replace C := Lib.hid C
      have HE := Lib.hid hE
      clear hE
      go_wp2_with fail
      refine (C.out).mono ?_
      rintro e w4 ⟨rfl, b4⟩
      have Q := Lib.hid (HB.out.tr b4)
      clear b4 hc C
      by_cases hz : E = 0
      · have hz0 : Hid (bE2 b = 0) := Lib.hid (by rw [← HE.out]; exact hz)
        subst hz
        go_wp2
        go_roundw
        case rel => exact ⟨Q.out, 2, by omega, rfl, fun _ => HGG.out.1 (by omega), fun _ => hz0.out, by omega, by omega⟩
        case measure => simp only [RowKit.intOf]; omega
      · have hr : Hid (R = E) := Lib.hid (by
          have hz1 : ¬ bE2 b = 0 := by rw [← HE.out]; exact hz
          rw [HR.out, HGG.out.1 (by omega), HE.out]; simp [hz1])
        have hz2 : (E == 0) = false := by rw [beq_eq_false_iff_ne]; exact hz
        clear hz
        go_wp2
        go_ret
        exact ⟨by rw [hr.out] <;> rfl, BB.out.tr Q.out⟩
    · have hc := K.out.cell 2 _ rfl
      have C := bchk4_any F wr g b v t (HA.out.fresh HB.out)
      obtain ⟨E, hE⟩ : ∃ E, E = bE3 b := ⟨_, rfl⟩
      rw [← hE] at C
      replace C := Lib.hid C
      have HE := Lib.hid hE
      clear hE
      go_wp2_with fail
      refine (C.out).mono ?_
      rintro e w4 ⟨rfl, b4⟩
      have Q := Lib.hid (HB.out.tr b4)
      clear b4 hc C
      by_cases hz : E = 0
      · have hz0 : Hid (bE3 b = 0) := Lib.hid (by rw [← HE.out]; exact hz)
        subst hz
        go_wp2
        go_roundw
        case rel => exact ⟨Q.out, 3, by omega, rfl, fun _ => HGG.out.1 (by omega), fun _ => HGG.out.2.1 (by omega), fun _ => hz0.out, by omega⟩
        case measure => simp only [RowKit.intOf]; omega
      · have hr : Hid (R = E) := Lib.hid (by
          have hz1 : ¬ bE3 b = 0 := by rw [← HE.out]; exact hz
          rw [HR.out, HGG.out.1 (by omega), HGG.out.2.1 (by omega), HE.out]; simp [hz1])
        have hz2 : (E == 0) = false := by rw [beq_eq_false_iff_ne]; exact hz
        clear hz
        go_wp2
        go_ret
        exact ⟨by rw [hr.out] <;> rfl, BB.out.tr Q.out⟩
    · have hc := K.out.cell 3 _ rfl
      have C := bchk5_any F wr g b v t (HA.out.fresh HB.out)
      obtain ⟨E, hE⟩ : ∃ E, E = bE4 b := ⟨_, rfl⟩
      rw [← hE] at C
      replace C := Lib.hid C
      have HE := Lib.hid hE
      clear hE
      go_wp2_with fail
      refine (C.out).mono ?_
      rintro e w4 ⟨rfl, b4⟩
      have Q := Lib.hid (HB.out.tr b4)
      clear b4 hc C
      by_cases hz : E = 0
      · have hz0 : Hid (bE4 b = 0) := Lib.hid (by rw [← HE.out]; exact hz)
        subst hz
        go_wp2
        go_roundw
        case rel => exact ⟨Q.out, 4, by omega, rfl, fun _ => HGG.out.1 (by omega), fun _ => HGG.out.2.1 (by omega), fun _ => HGG.out.2.2.1 (by omega), fun _ => hz0.out⟩
        case measure => simp only [RowKit.intOf]; omega
      · have hr : Hid (R = E) := Lib.hid (by
          have hz1 : ¬ bE4 b = 0 := by rw [← HE.out]; exact hz
          rw [HR.out, HGG.out.1 (by omega), HGG.out.2.1 (by omega), HGG.out.2.2.1 (by omega), HE.out]; simp [hz1])
        have hz2 : (E == 0) = false := by rw [beq_eq_false_iff_ne]; exact hz
        clear hz
        go_wp2
        go_ret
        exact ⟨by rw [hr.out] <;> rfl, BB.out.tr Q.out⟩
    · have hr : Hid (R = 0) := Lib.hid (by rw [HR.out, HGG.out.1 (by omega), HGG.out.2.1 (by omega), HGG.out.2.2.1 (by omega), HGG.out.2.2.2 (by omega)]; rfl)
      go_wp2
      go_ret
      exact ⟨by rw [hr.out] <;> rfl, BB.out.tr HB.out⟩
end Go.Proofs.Ytkbahhnjoidhcaa
