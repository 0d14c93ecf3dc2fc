/- Slices of slices, over any program. -/
import Derived.Test.YtbabjepblakboaaPlanF
namespace Go.Proofs.Ytbabjepblakboaa
set_option linter.unusedVariables false
set_option linter.unusedSimpArgs false
open Go.RowKit

theorem wpList_slice {P : Program} {ops : Array Oper} {rest : List Oper} {o : Oper} {a : Act} {w : World} {Q : Exit → Act → World → Prop} (hgd : o.guard = none) (t : TypeId) (x : Operand) (lo hi mx : Option Operand) (ho : o.op = .slice t x lo hi mx) (v : Value)
    (hr : (Instr.sliceAt t (a.eval x) (lo.map a.eval) (hi.map a.eval) (mx.map a.eval)).run P w = .ok v w)
    (h : wpList P ops Q rest (a.put o.dst v) w) : wpList P ops Q (o :: rest) a w := by
  refine wpList_plain hgd fun _ hK => ?_
  unfold Oper.wp execOp
  simp only [ho, hr, Sem.run_bind, Sem.run_pure, Result.andThen_ok]
  exact hK _ _ h

section
variable {P : Program} {w : World}

/-- x[i:] -/
theorem run_slice_from {t e : TypeId} {size : Nat} (ht : P.underlying t = some (.slice e)) (hs : (P.info? e).map (·.size) = some size) (a : Option Addr) (n c i : Nat) (hi : i ≤ n) :
    (Instr.sliceAt t (.slice a n c) (some (.int .i64 (i : Int))) none none).run P w = .ok (.slice (if c = i then a else a.map (·.add (i * size))) (n - i) (c - i)) w := by
  have h1 : (Instr.sliceBound (.int .i64 (i : Int)) n .sliceB).run P w = .ok i w := by
    have := run_sliceBound (P := P) (w := w) .i64 (i : Int) n .sliceB (by omega) (by omega)
    simpa using this
  simp [Instr.sliceAt, Instr.slice, run_underlying ht, Instr.sliceBounds, h1, run_size_of hs, go_sem]

/-- x[:j] -/
theorem run_slice_to {t e : TypeId} {size : Nat} (ht : P.underlying t = some (.slice e)) (hs : (P.info? e).map (·.size) = some size) (a : Option Addr) (n c j : Nat) (hj : j ≤ c) :
    (Instr.sliceAt t (.slice a n c) none (some (.int .i64 (j : Int))) none).run P w = .ok (.slice a j c) w := by
  have h1 : (Instr.sliceBound (.int .i64 (j : Int)) c .sliceAcap).run P w = .ok j w := by
    have := run_sliceBound (P := P) (w := w) .i64 (j : Int) c .sliceAcap (by omega) (by omega)
    simpa using this
  have h2 : ∀ a : Option Addr, a.map (·.add 0) = a := fun a => by cases a <;> rfl
  simp [Instr.sliceAt, Instr.slice, run_underlying ht, Instr.sliceBounds, h1, run_size_of hs, go_sem, h2]

end

/-- A part of what is read. -/
theorem Rd.sub {w : World} {size : Nat} {a : Option Addr} {n c : Nat} {cs : List Value} (h : Rd w size (.slice a n c) n cs) (o k : Nat) (ho : o + k ≤ n) :
    Rd w size (.slice (if c = o then a else a.map (·.add (o * size))) k (c - o)) k ((cs.drop (o * size)).take (k * size)) := by
  have hl := h.1
  have hok : o * size + k * size ≤ n * size := by rw [← Nat.add_mul]; exact Nat.mul_le_mul_right _ ho
  refine ⟨by rw [List.length_take, List.length_drop]; omega, ?_⟩
  rcases h.2 with ⟨he, h0⟩ | ⟨ad, c', he, h1, h2, hcell⟩
  · simp only [Value.slice.injEq] at he
    obtain ⟨rfl, _, rfl⟩ := he
    have ho0 : o = 0 := by omega
    have hk0 : k = 0 := by omega
    subst ho0 hk0
    exact .inl ⟨by simp, rfl⟩
  · simp only [Value.slice.injEq] at he
    obtain ⟨rfl, _, rfl⟩ := he
    by_cases hc : c = o
    · have hk0 : k = 0 := by omega
      subst hk0
      rw [if_pos hc]
      exact .inr ⟨ad, c - o, rfl, by omega, by omega, fun j u hj => by simp at hj⟩
    · rw [if_neg hc]
      refine .inr ⟨ad.add (o * size), c - o, rfl, by omega, by omega, fun j u hj => ?_⟩
      rw [add_add_addr]
      refine hcell _ u ?_
      rw [List.getElem?_take] at hj
      split at hj
      · rwa [List.getElem?_drop] at hj
      · cases hj

theorem add_zero_addr (ad : Addr) : ad.add 0 = ad := rfl

theorem ownBlock_part {a : Option Addr} {n c o k x m : Nat} {g : Nat} (h : (Value.slice (if c = o then a else a.map (·.add x)) k m).ownBlock = some g) : (Value.slice a n c).ownBlock = some g := by
  split at h
  · cases a with
    | none => simp [Value.ownBlock] at h
    | some ad => simpa [Value.ownBlock] using h
  · cases a with
    | none => simp [Value.ownBlock] at h
    | some ad => simpa [Value.ownBlock, Addr.add_block] using h

end Go.Proofs.Ytbabjepblakboaa
