/- What two outputs, two outpoints compare as. -/
import Derived.Test.YtkbahhnjoidhcaaXa
import Derived.Laws.StructEq
namespace Go.Proofs.Ytkbahhnjoidhcaa
set_option linter.unusedVariables false
set_option linter.unusedSimpArgs false
open Go.RowKit

theorem fields2 {P : Program} {t t1 t2 : TypeId} {o1 o2 : Nat} (h : (P.fieldsOf t).toList.map (fun f => (decide (f.name = "_"), f.type, f.offset)) = [(false, t1, o1), (false, t2, o2)]) :
    ∃ f1 f2, (P.fieldsOf t).toList = [f1, f2] ∧ f1.name ≠ "_" ∧ f1.type = t1 ∧ f1.offset = o1 ∧ f2.name ≠ "_" ∧ f2.type = t2 ∧ f2.offset = o2 := by
  generalize (P.fieldsOf t).toList = l at h
  rcases l with _ | ⟨f1, _ | ⟨f2, _ | ⟨f3, r⟩⟩⟩ <;> simp at h
  exact ⟨f1, f2, rfl, h.1.1, h.1.2.1, h.1.2.2, h.2.1, h.2.2.1, h.2.2.2⟩

/-- A struct of two fields: each compared. -/
theorem equal2 {P : Program} (w : World) (d : Nat) (t t1 t2 : TypeId) (o1 o2 : Nat) (xs ys : Array Value) (ht : P.underlying t = some (.struct (P.fieldsOf t))) (hp : P.stoodInHeld t = false)
    (h : (P.fieldsOf t).toList.map (fun f => (decide (f.name = "_"), f.type, f.offset)) = [(false, t1, o1), (false, t2, o2)])
    (a1 b1 a2 b2 : Value) (ha1 : (part t1 xs o1).run P w = .ok a1 w) (hb1 : (part t1 ys o1).run P w = .ok b1 w) (ha2 : (part t2 xs o2).run P w = .ok a2 w) (hb2 : (part t2 ys o2).run P w = .ok b2 w)
    (r1 r2 : Bool) (h1 : (Op.equalIn d t1 a1 b1).run P w = .ok r1 w) (h2 : (Op.equalIn d t2 a2 b2).run P w = .ok r2 w) :
    (Op.equalIn (d + 1) t (.agg xs) (.agg ys)).run P w = .ok (r1 && r2) w := by
  rw [run_equalIn_struct w d t xs ys ht hp]
  obtain ⟨f1, f2, hf, n1, rfl, rfl, n2, rfl, rfl⟩ := fields2 h
  rw [hf]
  simp only [Op.eqFields, n1, n2, ne_eq, not_false_eq_true, if_true, Sem.run_bind, ha1, hb1, h1, Result.andThen_ok]
  cases r1
  · simp
  · simp only [Bool.not_true, Bool.false_eq_true, if_false, Sem.run_bind, ha2, hb2, h2, Result.andThen_ok, Bool.true_and]
    cases r2 <;> simp

theorem part_hash (w : World) (cs : Array Value) (o : Nat) (xs : List UInt8) (h : cs.extract o (o + 32) = (bvs xs).toArray) : (part 24 cs o).run Try.prog w = .ok (.agg (bvs xs).toArray) w := by
  have hs : (sizeOf 24).run Try.prog w = .ok 32 w := run_size_of infoHash w
  simp [part, isAgg, run_underlying Try.underlying24, hs, h]

theorem equal_hashIn (w : World) (d : Nat) (xs ys : List UInt8) (hx : xs.length = 32) (hy : ys.length = 32) :
    (Op.equalIn (d + 2) 24 (.agg (bvs xs).toArray) (.agg (bvs ys).toArray)).run Try.prog w = .ok (xs == ys) w :=
  run_equalIn_bytes w d 24 5 32 Try.underlying24 Try.underlying5 (fun w' => run_size_of sizeU8 w') xs ys hx hy

theorem out_equal (w : World) (d : Nat) (x y : OutD) (hx : OutOk x) (hy : OutOk y) :
    (Op.equalIn (d + 3) 46 (.agg (outC x).toArray) (.agg (outC y).toArray)).run Try.prog w = .ok (decide (x = y)) w := by
  unfold OutOk at hx hy
  rw [equal2 w (d + 2) 46 25 24 0 1 _ _ (by kernel_rfl) (by kernel_rfl) (by kernel_rfl) (.int .u64 x.amt) (.int .u64 y.amt) (.agg (bvs x.lock).toArray) (.agg (bvs y.lock).toArray)
    (by simp [part, isAgg, run_underlying Try.underlying25, outC]) (by simp [part, isAgg, run_underlying Try.underlying25, outC])
    (part_hash w _ 1 x.lock (by simp [outC]; rw [List.take_of_length_le (by rw [bvs_length, hx]; exact Nat.le_refl _)])) (part_hash w _ 1 y.lock (by simp [outC]; rw [List.take_of_length_le (by rw [bvs_length, hy]; exact Nat.le_refl _)]))
    (x.amt == y.amt) (x.lock == y.lock) (run_equalIn_int w (d + 1) _ .u64 .u64 _ _ Try.underlying25) (equal_hashIn w d _ _ hx hy)]
  congr 1
  rw [Bool.eq_iff_iff]
  cases x; cases y
  simp

/-- An outpoint's cells. -/
def ptC (x : InD) : List Value := bvs x.id ++ [.int .u32 x.n]

theorem pt_equal (w : World) (d : Nat) (x y : InD) (hx : InOk x) (hy : InOk y) :
    (Op.equalIn (d + 3) 41 (.agg (ptC x).toArray) (.agg (ptC y).toArray)).run Try.prog w = .ok (decide (x.id = y.id ∧ x.n = y.n)) w := by
  unfold InOk at hx hy
  rw [equal2 w (d + 2) 41 24 39 0 32 _ _ (by kernel_rfl) (by kernel_rfl) (by kernel_rfl) (.agg (bvs x.id).toArray) (.agg (bvs y.id).toArray) (.int .u32 x.n) (.int .u32 y.n)
    (part_hash w _ 0 x.id (by simp [ptC, hx])) (part_hash w _ 0 y.id (by simp [ptC, hy]))
    (by simp [part, isAgg, run_underlying Try.underlying39, ptC, hx]) (by simp [part, isAgg, run_underlying Try.underlying39, ptC, hy])
    (x.id == y.id) (x.n == y.n) (equal_hashIn w d _ _ hx hy) (run_equalIn_int w (d + 1) _ .u32 .u32 _ _ Try.underlying39)]
  congr 1
  rw [Bool.eq_iff_iff]
  simp

theorem out_eq (w : World) (x y : OutD) (hx : OutOk x) (hy : OutOk y) : (binOp .eql 46 (.agg (outC x).toArray) (.agg (outC y).toArray)).run Try.prog w = .ok (.bool (decide (x = y))) w := by
  rw [run_eql_struct, out_equal w 9997 x y hx hy]
  rfl
theorem out_ne (w : World) (x y : OutD) (hx : OutOk x) (hy : OutOk y) : (binOp .neq 46 (.agg (outC x).toArray) (.agg (outC y).toArray)).run Try.prog w = .ok (.bool (!decide (x = y))) w := by
  rw [run_neq_struct, out_equal w 9997 x y hx hy]
  rfl
theorem pt_eq (w : World) (x y : InD) (hx : InOk x) (hy : InOk y) : (binOp .eql 41 (.agg (ptC x).toArray) (.agg (ptC y).toArray)).run Try.prog w = .ok (.bool (decide (x.id = y.id ∧ x.n = y.n))) w := by
  rw [run_eql_struct, pt_equal w 9997 x y hx hy]
  rfl
theorem pt_ne (w : World) (x y : InD) (hx : InOk x) (hy : InOk y) : (binOp .neq 41 (.agg (ptC x).toArray) (.agg (ptC y).toArray)).run Try.prog w = .ok (.bool (!decide (x.id = y.id ∧ x.n = y.n))) w := by
  rw [run_neq_struct, pt_equal w 9997 x y hx hy]
  rfl

end Go.Proofs.Ytkbahhnjoidhcaa
