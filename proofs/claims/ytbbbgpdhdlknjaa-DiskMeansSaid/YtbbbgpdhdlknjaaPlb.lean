/- A planned region in which a struct is built out of what is there. -/
import Derived.Test.YtbbbgpdhdlknjaaG1
namespace Go.Proofs.Ytbbbgpdhdlknjaa
set_option linter.unusedVariables false
set_option linter.unusedSimpArgs false
open Go.RowKit

def valueOpB : Op → Bool
  | .build .. => true
  | _ => false

theorem valueOpB_run {P : Program} {ρ : Operand → Value} {o : Oper} {w w' : World} {n : Next} (hv : valueOpB o.op = true) (h : (execOp ρ o).run P w = .ok n w') : ∃ v, n = .value v := by
  obtain ⟨dst, op, type, pos, after, guard⟩ := o
  cases op <;> simp only [valueOpB] at hv <;> first | (cases hv; done) | skip
  unfold execOp at h
  simp only at h
  exact run_value_only h

section
variable {P : Program} {ops : Array Oper} {S : World → Prop} {K : Act → World → Prop}

/-- Number i reads only: it yields the same in every world of which S holds. -/
theorem pl_lightB {i fuel : Nat} {o : Oper} {listed : Array Bool} {a A : Act} {w : World} (d : Nat) (hi : ops[i]? = some o) (hv : valueOpB o.op = true) (hdst : o.dst = some d) (hs : Region.noSelect ops = true)
    (hf : Region.free .any ops listed i = true) (hr : (Region.ready .any ops listed).contains i = true) (hd : d < a.tmps.size) (hS : S w)
    (hrun : ∀ w', S w' → wpList P ops (Exit.then (fun a' w'' => w'' = w' ∧ a' = A) noExit) [o] a w')
    (h : wpAnyH P .any ops (PQ K) S fuel (listed.setIfInBounds i true) A w) : wpAnyH P .any ops (PQ K) S (fuel + 1) listed a w := by
  have key : ∀ w', S w' → (Region.wanted o (yielded ops a.tmps) = true ∧ ∃ v, (execOp a.eval o).run P w' = .ok (.value v) w' ∧ a.put o.dst v = A) ∨ (Region.wanted o (yielded ops a.tmps) = false ∧ a.put o.dst undef = A) := by
    intro w' hS'
    have h1 := hrun w' hS'
    unfold wpList at h1
    cases hw : Region.wanted o (yielded ops a.tmps) with
    | true =>
      rw [hw, if_pos rfl] at h1
      rcases h1 with h1 | ⟨_, a0, w0, hf⟩
      · left
        refine ⟨rfl, ?_⟩
        unfold Oper.wp at h1
        cases hx : (execOp a.eval o).run P w' with
        | ok n w1 =>
          obtain ⟨v, rfl⟩ := valueOpB_run hv hx
          rw [hx, Oper.upon_value] at h1
          obtain ⟨rfl, h2⟩ := (h1 : w1 = w' ∧ _)
          exact ⟨v, rfl, h2⟩
        | halt x w1 =>
          rw [hx] at h1
          cases x <;> exact (h1 : False).elim
      · exact (hf : False).elim
    | false =>
      rw [hw] at h1
      exact .inr ⟨rfl, (h1 : w' = w' ∧ _).2⟩
  have hap : ∃ v, YieldsIf P ops S o v a ∧ a.put o.dst v = A := by
    rcases key w hS with ⟨hw, v, hv1, hv2⟩ | ⟨hw, h2⟩
    · refine ⟨v, .inl ⟨hw, fun w' hS' => ?_⟩, hv2⟩
      rcases key w' hS' with ⟨_, v', h3, h4⟩ | ⟨hw', _⟩
      · rw [h3]
        rw [← hv2, hdst] at h4
        rw [put_inj h4 hd]
      · rw [hw] at hw'; cases hw'
    · exact ⟨undef, .inr ⟨hw, rfl⟩, h2⟩
  obtain ⟨v, hy, rfl⟩ := hap
  exact wpAnyH_take hi hs hf hr (fun _ _ _ h => h) hy hS h

theorem pl_takeB {i fuel : Nat} {o : Oper} {listed : Array Bool} {a : Act} {w : World} (d : Nat) (hi : ops[i]? = some o) (hv : valueOpB o.op = true) (hdst : o.dst = some d) (hs : Region.noSelect ops = true)
    (hf : Region.free .any ops listed i = true) (hr : (Region.ready .any ops listed).contains i = true) (hd : d < a.tmps.size) (hS : S w)
    (h : ∃ A, (∀ w', S w' → wpList P ops (Exit.then (fun a' w'' => w'' = w' ∧ a' = A) noExit) [o] a w') ∧ wpAnyH P .any ops (PQ K) S fuel (listed.setIfInBounds i true) A w) : wpAnyH P .any ops (PQ K) S (fuel + 1) listed a w := by
  obtain ⟨A, h1, h2⟩ := h
  exact pl_lightB d hi hv hdst hs hf hr hd hS h1 h2

end
end Go.Proofs.Ytbbbgpdhdlknjaa
