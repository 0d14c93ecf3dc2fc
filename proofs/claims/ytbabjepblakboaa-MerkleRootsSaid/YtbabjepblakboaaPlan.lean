/- A region that draws its order, walked in one order: what reads only is taken first (it yields the same in every world of which S holds), what is left comes up alone. -/
import Derived.Test.YtbabjepblakboaaAgg
import Derived.OrdersHeld
namespace Go.Proofs.Ytbabjepblakboaa
set_option linter.unusedVariables false
set_option linter.unusedSimpArgs false
open Go.RowKit

def noExit : Exit → Act → World → Prop := fun _ _ _ => False

/-- An operation that leaves a value where it runs to its end. -/
def valueOp : Op → Bool
  | .move _ | .assign _ | .pick .. | .load .. | .nilCheck _ | .binOp .. | .unOp .. | .convert .. | .slice .. | .fieldAddr .. | .field .. | .indexAddr .. | .index .. | .extract .. | .lookup .. => true
  | .call c => match c.callee with | .builtin .len => true | _ => false
  | _ => false

theorem run_value_only {P : Program} {s : Sem Value} {w w' : World} {n : Next} (h : (do let v ← s; pure (Next.value v) : Sem Next).run P w = .ok n w') : ∃ v, n = .value v := by
  rw [Sem.run_bind] at h
  cases hs : s.run P w with
  | ok v w1 =>
    rw [hs] at h
    simp only [Result.andThen_ok, Sem.run_pure] at h
    cases h
    exact ⟨v, rfl⟩
  | halt x w1 =>
    rw [hs] at h
    simp [Result.andThen] at h

theorem run_bind_ok {P : Program} {α β : Type} {s : Sem α} {f : α → Sem β} {w w' : World} {n : β} (h : (s >>= f).run P w = .ok n w') : ∃ x w1, (f x).run P w1 = .ok n w' := by
  rw [Sem.run_bind] at h
  cases hs : s.run P w with
  | ok v w1 =>
    rw [hs] at h
    exact ⟨v, w1, h⟩
  | halt x w1 =>
    rw [hs] at h
    simp [Result.andThen] at h

theorem run_pure_value {P : Program} {v : Value} {w w' : World} {n : Next} (h : (pure (Next.value v) : Sem Next).run P w = .ok n w') : ∃ v, n = .value v := by
  simp only [Sem.run_pure] at h; cases h; exact ⟨_, rfl⟩

theorem run_panic_not {P : Program} {w w' : World} {n : Next} (h : (runtimePanic .nilDeref : Sem Next).run P w = .ok n w') : False := by
  unfold runtimePanic at h
  obtain ⟨x, w1, h1⟩ := run_bind_ok h
  simp [goPanic] at h1

theorem valueOp_run {P : Program} {ρ : Operand → Value} {o : Oper} {w w' : World} {n : Next} (hv : valueOp o.op = true) (h : (execOp ρ o).run P w = .ok n w') : ∃ v, n = .value v := by
  obtain ⟨dst, op, type, pos, after, guard⟩ := o
  cases op <;> simp only [valueOp] at hv <;> first | (cases hv; done) | skip
  all_goals unfold execOp at h
  all_goals simp only at h
  all_goals first
    | exact run_value_only h
    | (simp only [Sem.run_pure] at h; cases h; exact ⟨_, rfl⟩)
    | skip
  · obtain ⟨x, w1, h1⟩ := run_bind_ok h
    exact run_pure_value h1
  · split at h
    · exact (run_panic_not h).elim
    · exact (run_panic_not h).elim
    · exact (run_panic_not h).elim
    · split at h
      · exact (run_panic_not h).elim
      · obtain ⟨x, w1, h1⟩ := run_bind_ok h
        obtain ⟨x, w1, h1⟩ := run_bind_ok h1
        split at h1
        · obtain ⟨x, w1, h1⟩ := run_bind_ok h1
          exact run_pure_value h1
        · exact run_pure_value h1
      · exact run_pure_value h
    · exact run_pure_value h
  · rename_i c
    obtain ⟨callee, args, tys⟩ := c
    cases callee <;> simp only at hv <;> first | (cases hv; done) | skip
    rename_i b
    cases b <;> simp only at hv <;> first | (cases hv; done) | skip
    simp only [resolve, Sem.run_bind, Sem.run_pure, Result.andThen_ok, invoke, builtin] at h
    cases hs : (Builtin.len_ tys type (Array.map ρ args)).run P w with
    | ok v w1 =>
      rw [hs] at h
      simp only [Result.andThen_ok] at h
      cases h
      exact ⟨v, rfl⟩
    | halt x w1 =>
      rw [hs] at h
      simp [Result.andThen] at h

section
variable {P : Program} {ops : Array Oper} {S : World → Prop} {K : Act → World → Prop}

/-- The post within a planned region: it ends well, or not at all. -/
def PQ (K : Act → World → Prop) : Exit → Act → World → Prop := Exit.then K noExit

theorem put_inj {a : Act} {d : Nat} {u v : Value} (h : a.put (some d) u = a.put (some d) v) (hd : d < a.tmps.size) : u = v := by
  have h1 : (a.put (some d) u).tmps[d]? = (a.put (some d) v).tmps[d]? := by rw [h]
  simpa [Act.put, hd] using h1

/-- Number i reads only: it yields the same in every world of which S holds. -/
theorem pl_light {i fuel : Nat} {o : Oper} {listed : Array Bool} {a A : Act} {w : World} (d : Nat) (hi : ops[i]? = some o) (hv : valueOp o.op = true) (hdst : o.dst = some d) (hs : Region.noSelect ops = true)
    (hf : Region.free .any ops listed i = true) (hr : (Region.ready .any ops listed).contains i = true) (hd : d < a.tmps.size) (hS : S w)
    (hrun : ∀ w', S w' → wpList P ops (Exit.then (fun a' w'' => w'' = w' ∧ a' = A) noExit) [o] a w')
    (h : wpAnyH P .any ops (PQ K) S fuel (listed.setIfInBounds i true) A w) : wpAnyH P .any ops (PQ K) S (fuel + 1) listed a w := by
  have key : ∀ w', S w' → (Region.wanted o (yielded ops a.tmps) = true ∧ ∃ v, (execOp a.eval o).run P w' = .ok (.value v) w' ∧ a.put o.dst v = A) ∨ (Region.wanted o (yielded ops a.tmps) = false ∧ a.put o.dst undef = A) := by
    intro w' hS'
    have h1 := hrun w' hS'
    unfold wpList at h1
    cases hw : Region.wanted o (yielded ops a.tmps) with
    | true =>
      rw [hw, if_pos rfl] at h1
      rcases h1 with h1 | ⟨_, a0, w0, hf⟩
      · left
        refine ⟨rfl, ?_⟩
        unfold Oper.wp at h1
        cases hx : (execOp a.eval o).run P w' with
        | ok n w1 =>
          obtain ⟨v, rfl⟩ := valueOp_run hv hx
          rw [hx, Oper.upon_value] at h1
          obtain ⟨rfl, h2⟩ := (h1 : w1 = w' ∧ _)
          exact ⟨v, rfl, h2⟩
        | halt x w1 =>
          rw [hx] at h1
          cases x <;> exact (h1 : False).elim
      · exact (hf : False).elim
    | false =>
      rw [hw] at h1
      exact .inr ⟨rfl, (h1 : w' = w' ∧ _).2⟩
  have hap : ∃ v, YieldsIf P ops S o v a ∧ a.put o.dst v = A := by
    rcases key w hS with ⟨hw, v, hv1, hv2⟩ | ⟨hw, h2⟩
    · refine ⟨v, .inl ⟨hw, fun w' hS' => ?_⟩, hv2⟩
      rcases key w' hS' with ⟨_, v', h3, h4⟩ | ⟨hw', _⟩
      · rw [h3]
        rw [← hv2, hdst] at h4
        rw [put_inj h4 hd]
      · rw [hw] at hw'; cases hw'
    · exact ⟨undef, .inr ⟨hw, rfl⟩, h2⟩
  obtain ⟨v, hy, rfl⟩ := hap
  exact wpAnyH_take hi hs hf hr (fun _ _ _ h => h) hy hS h

theorem pl_take {i fuel : Nat} {o : Oper} {listed : Array Bool} {a : Act} {w : World} (d : Nat) (hi : ops[i]? = some o) (hv : valueOp o.op = true) (hdst : o.dst = some d) (hs : Region.noSelect ops = true)
    (hf : Region.free .any ops listed i = true) (hr : (Region.ready .any ops listed).contains i = true) (hd : d < a.tmps.size) (hS : S w)
    (h : ∃ A, (∀ w', S w' → wpList P ops (Exit.then (fun a' w'' => w'' = w' ∧ a' = A) noExit) [o] a w') ∧ wpAnyH P .any ops (PQ K) S fuel (listed.setIfInBounds i true) A w) : wpAnyH P .any ops (PQ K) S (fuel + 1) listed a w := by
  obtain ⟨A, h1, h2⟩ := h
  exact pl_light d hi hv hdst hs hf hr hd hS h1 h2

/-- Number i is not wanted: its guard says so. -/
theorem pl_skip {i fuel : Nat} {o : Oper} {listed : Array Bool} {a : Act} {w : World} (hi : ops[i]? = some o) (hw : Region.wanted o (yielded ops a.tmps) = false) (hs : Region.noSelect ops = true)
    (hf : Region.free .any ops listed i = true) (hr : (Region.ready .any ops listed).contains i = true) (hS : S w)
    (h : ∃ A, a.put o.dst undef = A ∧ wpAnyH P .any ops (PQ K) S fuel (listed.setIfInBounds i true) A w) : wpAnyH P .any ops (PQ K) S (fuel + 1) listed a w := by
  obtain ⟨A, rfl, h⟩ := h
  exact wpAnyH_take hi hs hf hr (fun _ _ _ h => h) (.inr ⟨hw, rfl⟩) hS h

/-- Number i alone may come up. -/
theorem pl_heavy {i fuel : Nat} {o : Oper} {listed : Array Bool} {a : Act} {w : World} (hi : ops[i]? = some o) (hr : Region.ready .any ops listed = [i])
    (h : wpList P ops (Exit.then (fun a' w' => S w' ∧ wpAnyH P .any ops (PQ K) S fuel (listed.setIfInBounds i true) a' w') noExit) [o] a w) : wpAnyH P .any ops (PQ K) S (fuel + 1) listed a w := by
  refine wpAnyH_all hr (by simp) ?_
  intro j hj
  simp only [List.mem_singleton] at hj
  subst hj
  unfold wpOp
  rw [hi]
  simp only
  unfold wpList at h
  split
  · rename_i hw
    rw [if_pos hw] at h
    rcases h with h | ⟨hk, a0, w0, hf⟩
    · left
      unfold Oper.wp at h ⊢
      generalize (execOp a.eval o).run P w = r at h ⊢
      cases r with
      | ok n w1 =>
        cases n <;> simp only [Oper.upon] at h ⊢ <;> first
          | exact h
          | exact Calls.mono h (fun e w2 he => by
              cases e with
              | returned v => exact he
              | panicked c => exact (he : False).elim
              | outgrown => obtain ⟨_, _, hf⟩ := he; exact (hf : False).elim)
          | exact Rows.mono h (fun _ _ he => he)
      | halt x w1 =>
        cases x <;> simp only [Oper.upon] at h ⊢ <;> exact h
    · exact (hf : False).elim
  · rename_i hw
    rw [if_neg hw] at h
    exact h

theorem pl_done {fuel : Nat} {listed : Array Bool} {a : Act} {w : World} (hr : Region.ready .any ops listed = []) (h : K a w) : wpAnyH P .any ops (PQ K) S fuel listed a w :=
  wpAnyH_done hr h fuel

/-- The beginning: what is known of the world behind the draw is S. -/
theorem pl_start {id : Nat} {a : Act} {w : World} {Q : Exit → Act → World → Prop} (n : Nat) (hn : ops.size = n) (S : World → Prop) (hm : P.follows .mixedOrders = true)
    (h : wpAnyH P .any ops (PQ (Q .normal)) S n (Array.replicate n false) a w.drew) : (Code.region id ops true).wp P Q a w := by
  subst hn
  refine Code.wp_mono ?_ (wp_region_held (Q := PQ (Q .normal)) hm h)
  intro e a w q
  cases e <;> first | exact q | exact (q : False).elim

end
end Go.Proofs.Ytbabjepblakboaa
