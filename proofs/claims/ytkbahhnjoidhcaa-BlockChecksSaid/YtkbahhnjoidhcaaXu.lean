/- Blocks built of a header; slices built of blocks. -/
import Derived.Test.YtkbahhnjoidhcaaXp
import Derived.Test.YtkbahhnjoidhcaaXr
namespace Go.Proofs.Ytkbahhnjoidhcaa
set_option linter.unusedVariables false
set_option linter.unusedSimpArgs false
open Go.RowKit

theorem of32' {h : Bs} (hl : h.length = 32) : ∃ a0 a1 a2 a3 a4 a5 a6 a7 a8 a9 a10 a11 a12 a13 a14 a15 a16 a17 a18 a19 a20 a21 a22 a23 a24 a25 a26 a27 a28 a29 a30 a31 : UInt8, h = [a0, a1, a2, a3, a4, a5, a6, a7, a8, a9, a10, a11, a12, a13, a14, a15, a16, a17, a18, a19, a20, a21, a22, a23, a24, a25, a26, a27, a28, a29, a30, a31] := by
  match h, hl with
  | [a0, a1, a2, a3, a4, a5, a6, a7, a8, a9, a10, a11, a12, a13, a14, a15, a16, a17, a18, a19, a20, a21, a22, a23, a24, a25, a26, a27, a28, a29, a30, a31], _ => exact ⟨a0, a1, a2, a3, a4, a5, a6, a7, a8, a9, a10, a11, a12, a13, a14, a15, a16, a17, a18, a19, a20, a21, a22, a23, a24, a25, a26, a27, a28, a29, a30, a31, rfl⟩

set_option maxRecDepth 100000 in
theorem build_block1 (w : World) (x : HdD) (hx : HdOk x) (a : Option Addr) (n c : Nat) :
    (Instr.build 30 #[(0, .agg (hdC x (.slice a n c)).toArray)]).run Try.prog w = .ok (.agg (blC ⟨x, []⟩ (.slice a n c) (.slice none 0 0)).toArray) w := by
  obtain ⟨par, root, acc, coins, miner, nonce⟩ := x
  obtain ⟨h1, h2, h3, h4⟩ := hx
  obtain ⟨a0, a1, a2, a3, a4, a5, a6, a7, a8, a9, a10, a11, a12, a13, a14, a15, a16, a17, a18, a19, a20, a21, a22, a23, a24, a25, a26, a27, a28, a29, a30, a31, rfl⟩ := of32' h1
  obtain ⟨b0, b1, b2, b3, b4, b5, b6, b7, b8, b9, b10, b11, b12, b13, b14, b15, b16, b17, b18, b19, b20, b21, b22, b23, b24, b25, b26, b27, b28, b29, b30, b31, rfl⟩ := of32' h2
  obtain ⟨c0, c1, c2, c3, c4, c5, c6, c7, c8, c9, c10, c11, c12, c13, c14, c15, c16, c17, c18, c19, c20, c21, c22, c23, c24, c25, c26, c27, c28, c29, c30, c31, rfl⟩ := of32' h3
  obtain ⟨d0, d1, d2, d3, d4, d5, d6, d7, d8, d9, d10, d11, d12, d13, d14, d15, d16, d17, d18, d19, d20, d21, d22, d23, d24, d25, d26, d27, d28, d29, d30, d31, rfl⟩ := of32' h4
  kernel_rfl

/-- A slice literal of values of one size. -/
theorem wpList_buildR {ops : Array Oper} {rest : List Oper} {o : Oper} {a : Act} {w : World} {Q : Exit → Act → World → Prop} (hgd : o.guard = none) (t e : TypeId) (len : Nat) (parts : Array (Nat × Operand)) (ho : o.op = .buildSlice t len parts)
    (ht : Try.prog.underlying t = some (.slice e)) (s : Nat) (z : Value) (hinfo : (Try.prog.info? e).map (fun i => (i.zero, i.size)) = some (some z, s)) (hs : 0 < s) (hsm : len * s ≤ 16777216) (hpos : 0 < len)
    (cs : List (List Value)) (hcs : ∀ c ∈ cs, c.length = s) (hlen : cs.length = len)
    (hp : (parts.map fun (i, x) => (i, a.eval x)).toList = ((cs.map fun c => Value.agg c.toArray).zipIdx 0).map fun x => (x.2, x.1))
    (h : ∀ w', Rd w' s (.slice (some ⟨w.heap.size, 0, none⟩) len len) len cs.flatten → Below w.heap.size w w' → w'.heap.size = w.heap.size + 1 → wpList Try.prog ops Q rest (a.put o.dst (.slice (some ⟨w.heap.size, 0, none⟩) len len)) w') : wpList Try.prog ops Q (o :: rest) a w := by
  obtain ⟨i0, hi, hzz⟩ := Option.map_eq_some_iff.1 hinfo
  simp only [Prod.mk.injEq] at hzz
  obtain ⟨hz0, hz1⟩ := hzz
  have hfl : ∀ l : List (List Value), (l.map fun c => Value.agg c.toArray).flatMap (fun v => v.cells.toList) = l.flatten := fun l => by
    induction l with
    | nil => rfl
    | cons x l ih => rw [List.map_cons, List.flatMap_cons, ih, List.flatten_cons]; rfl
  have hll : ∀ l : List (List Value), (∀ c ∈ l, c.length = s) → l.flatten.length = l.length * s := fun l hl => by
    induction l with
    | nil => simp
    | cons x l ih => rw [List.flatten_cons, List.length_append, hl x (by simp), ih (fun c hc => hl c (by simp [hc])), List.length_cons, Nat.add_mul, Nat.one_mul, Nat.add_comm]
  have hps : 0 < len * s := Nat.mul_pos hpos hs
  refine wpList_buildSlice hgd t e len parts ho cs.flatten.toArray i0 _ ht hi hz0 (by rw [hz1]; omega) (by rw [hz1]; omega) ?_ ?_
  · rw [hp, hz1, Great.fill_whole hs _ _ ?_ ?_, hfl]
    · intro v hv
      obtain ⟨x, hx, rfl⟩ := List.mem_map.1 hv
      simp [Value.cells, hcs x hx]
    · simp [hlen]
  · refine h _ ⟨by rw [hll _ hcs, hlen], .inr ⟨_, _, rfl, by omega, by unfold maxLen; have : len * 1 ≤ len * s := Nat.mul_le_mul_left _ hs; omega, fun j u hj => ?_⟩⟩ ((Below.refl _ w).alloc (Nat.le_refl _) _) (Array.size_push _)
    rw [add_at, Nat.zero_add]
    exact (CB.new w e cs.flatten).cell j u hj

theorem OwI.grownT {w0 w w' : World} {F : Nat → Prop} {base : Nat} {r : Option Nat} {v : Value} {l : List InD} (h : OwI w0 F base w v l) (hg : w.grownBy w' r) (hne : ∀ k, v.ownBlock = some k → r ≠ some k) : OwI w0 F base w' v l := by
  obtain ⟨vs, q1, q2, q3⟩ := h
  exact ⟨vs, q1, own_grownT q2 hg hne, q3⟩
theorem OwI.only {w0 w w' : World} {F : Nat → Prop} {base g : Nat} {v : Value} {l : List InD} (h : OwI w0 F base w v l) (ho : Only g w w') (hne : v.ownBlock ≠ some g) : OwI w0 F base w' v l := by
  obtain ⟨vs, q1, q2, q3⟩ := h
  exact ⟨vs, q1, own_onlyT q2 ho hne, q3⟩
theorem OwI.lt {w0 w : World} {F : Nat → Prop} {base : Nat} {v : Value} {l : List InD} (h : OwI w0 F base w v l) (k : Nat) (hk : v.ownBlock = some k) : base ≤ k ∧ k < w.heap.size := by
  obtain ⟨vs, q1, q2, q3⟩ := h
  exact q2.lt k hk

/-- One more transaction. -/
theorem OwT.grow {w0 wr wy w8 : World} {F : Nat → Prop} {us : List (Value × Value)} {base : Nat} {v v8 : Value} {l : List TxD} {x : TxD} {p : Value × Value} (h : OwT w0 F us base wr v l) (bz : Below wr.heap.size wr wy) (hbase : base ≤ wr.heap.size)
    (oi : OwI w0 F wr.heap.size wy p.1 x.ins) (oo : OwO wr.heap.size wy p.2 x.outs) (g8 : wy.grownBy w8 v.ownBlock) (o8 : w8.ownsRow base 37 3 v8 (l.length + 1) ((l.zip us).flatMap txC ++ txC (x, p))) : OwT w0 F (us ++ [p]) base w8 v8 (l ++ [x]) := by
  obtain ⟨h1, h2, h3, h4⟩ := h
  have hv : ∀ k, v.ownBlock = some k → k < wr.heap.size := fun k hk => (h2.lt k hk).2
  refine ⟨by simp [h1], ?_, fun i y u hy hu => ?_, Dis.snoc h4 (fun i q hq b => ?_)⟩
  · rw [List.length_append, List.zip_append (by rw [h1]), List.flatMap_append]
    simpa using o8
  · rcases Nat.lt_or_ge i l.length with hi | hi
    · rw [List.getElem?_append_left hi] at hy
      rw [List.getElem?_append_left (by rw [h1]; exact hi)] at hu
      obtain ⟨⟨vs, q1, q2, q3⟩, h6⟩ := h3 i y u hy hu
      refine ⟨⟨vs, q1, own_grownT (own_fresh q2 bz) g8 (fun k hk => own_type q2 h2 tI hk), q3⟩, own_grownT (own_fresh h6 bz) g8 (fun k hk => own_type h6 h2 tO hk)⟩
    · have hi' : i - l.length = 0 := by
        have := (List.getElem?_eq_some_iff.1 hy).1
        simp at this
        omega
      rw [List.getElem?_append_right hi, hi'] at hy
      rw [List.getElem?_append_right (by rw [h1]; exact hi), h1, hi'] at hu
      simp at hy hu
      subst hy
      subst hu
      obtain ⟨vs, q1, q2, q3⟩ := oi
      exact ⟨⟨vs, q1, own_lower' (own_grownT q2 g8 (fun k hk e => by have := hv k e; have := (q2.lt k hk).1; omega)) hbase, q3⟩, own_lower' (own_grownT oo g8 (fun k hk e => by have := hv k e; have := (World.ownsRow.lt oo k hk).1; omega)) hbase⟩
  · obtain ⟨y, hy⟩ : ∃ y, l[i]? = some y := ⟨_, List.getElem?_eq_getElem (by have := (List.getElem?_eq_some_iff.1 hq).1; omega)⟩
    obtain ⟨h5, h6⟩ := h3 i y q hy hq
    exact ⟨fun e1 e2 => by have := (h5.lt b e1).2; have := (oi.lt b e2).1; omega, fun e1 e2 => by have := (World.ownsRow.lt h6 b e1).2; have := (World.ownsRow.lt oo b e2).1; omega⟩

theorem OwT.only {w0 w w' : World} {F : Nat → Prop} {us : List (Value × Value)} {base g : Nat} {v : Value} {l : List TxD} (h : OwT w0 F us base w v l) (ho : Only g w w') (hg : g < base) : OwT w0 F us base w' v l := by
  obtain ⟨h1, h2, h3, h4⟩ := h
  refine ⟨h1, own_onlyT h2 ho (fun e => by have := (h2.lt _ e).1; omega), fun i x u hx hu => ?_, h4⟩
  obtain ⟨h5, h6⟩ := h3 i x u hx hu
  exact ⟨h5.only ho (fun e => by have := (h5.lt _ e).1; omega), own_onlyT h6 ho (fun e => by have := (World.ownsRow.lt h6 _ e).1; omega)⟩

theorem infoZBl : (Try.prog.info? 30).map (fun i => (i.zero, i.size)) = some (some (.agg zeroBl.toArray), 131) := by kernel_rfl
theorem infoC_in : (Try.prog.info? 44).map (fun i => (i.zero, i.size, i.bytes)) = some (some (.agg ((List.replicate 32 (Value.int .u8 0)) ++ [Value.int .u32 0, Value.slice none 0 0]).toArray), 34, 64) := by kernel_rfl
theorem infoC_out : (Try.prog.info? 46).map (fun i => (i.zero, i.size, i.bytes)) = some (some (.agg (Value.int .u64 0 :: List.replicate 32 (Value.int .u8 0)).toArray), 33, 40) := by kernel_rfl

end Go.Proofs.Ytkbahhnjoidhcaa
