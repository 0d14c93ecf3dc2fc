/- A region that draws its order, walked in one order, where the last operations need not keep what the reading ones lean on. -/
import Derived.Test.YtbabjepblakboaaPlan
namespace Go.Proofs.Ytbabjepblakboaa
set_option linter.unusedVariables false
set_option linter.unusedSimpArgs false
open Go.RowKit

section
variable {P : Program} {ops : Array Oper} {S : World → Prop} {F : Nat → Bool} {K : Act → World → Prop}

/-- None of the last has come up. -/
def noFin (F : Nat → Bool) (l : Array Bool) : Prop := ∀ j, F j = true → l.getD j false = false

/-- Any order; S stands as long as none of the last has come up. -/
def wpAnyF (P : Program) (ops : Array Oper) (Q : Exit → Act → World → Prop) (S : World → Prop) (F : Nat → Bool) : Nat → Array Bool → Act → World → Prop
  | 0, l, a, w => Region.ready .any ops l = [] ∧ Q .normal a w
  | n + 1, l, a, w => (Region.ready .any ops l = [] → Q .normal a w) ∧ ∀ i ∈ Region.ready .any ops l, wpOp P ops Q i (fun a' w' => (noFin F (l.setIfInBounds i true) → S w') ∧ wpAnyF P ops Q S F n (l.setIfInBounds i true) a' w') a w

theorem wpAny_of_F {Q : Exit → Act → World → Prop} : ∀ (n : Nat) (l : Array Bool) (a : Act) (w : World), wpAnyF P ops Q S F n l a w → wpAny P .any ops Q n l a w
  | 0, _, _, _, h => h
  | n + 1, _, _, _, h => ⟨h.1, fun i hi => wpOp_mono (fun a' w' h' => wpAny_of_F n _ a' w' h'.2) (h.2 i hi)⟩

theorem noFin_set {l : Array Bool} {i : Nat} (h : noFin F l) (hi : F i = false) : noFin F (l.setIfInBounds i true) := fun j hj => by
  have hne : i ≠ j := fun e => by subst e; rw [hi] at hj; cases hj
  rw [getD_set_ne false hne]
  exact h j hj

theorem wpAnyF_first {S0 : World → Prop} {inv : Array Bool → Prop} {Q : Exit → Act → World → Prop} {i : Nat} {oi : Oper} {v : Value} (hi : ops[i]? = some oi) (hsel : ∀ (j : Nat) (o : Oper) cs b, ops[j]? = some o → o.op ≠ .select cs b)
    (hQ : ∀ c a w, Q (.panic c) (a.put oi.dst v) w → Q (.panic c) a w) (hFi : F i = false)
    (hinv : ∀ (l : Array Bool) (j : Nat) (o : Oper), inv l → ops[j]? = some o → (∀ e ∈ o.after, Region.binds .any e = true → e.on ≠ i) → inv (l.setIfInBounds j true))
    (hS0 : ∀ (l : Array Bool) (w' : World), inv l → (noFin F l → S w') → S0 w') :
    ∀ (n : Nat) (l : Array Bool) (a : Act) (w : World),
      (∀ j oj, ops[j]? = some oj → j ≠ i → l.getD j true = false → (∀ e ∈ oj.after, Region.binds .any e = true → e.on ≠ i) → oi.apart ops oj = true) →
      i ∈ Region.ready .any ops l → YieldsIf P ops S0 oi v a → inv l → S0 w → (noFin F l → S w) →
      wpAnyF P ops Q S F n (l.setIfInBounds i true) (a.put oi.dst v) w → wpAnyF P ops Q S F (n + 1) l a w := by
  have hback : ∀ (l : Array Bool), noFin F (l.setIfInBounds i true) → noFin F l := fun l h j hj => by
    have hne : i ≠ j := fun e => by subst e; rw [hFi] at hj; cases hj
    have := h j hj
    rwa [getD_set_ne false hne] at this
  intro n
  induction n with
  | zero =>
    intro l a w _ hr hy hl hS hS1 H
    refine ⟨fun h => (by rw [h] at hr; cases hr), fun j hj => ?_⟩
    rcases Nat.decEq j i with hji | hji
    · have := ready_mono hj hji
      rw [H.1] at this
      cases this
    · subst hji
      exact hy.wpOp hi hS ⟨fun h => hS1 (hback _ h), H⟩
  | succ n ih =>
    intro l a w hfree hr hy hl hS hS1 H
    have hun : l.getD i false = false := by
      have h0 := (mem_ready.1 hr).1
      rcases Nat.lt_or_ge i l.size with h' | h'
      · simp [h'] at h0 ⊢; exact h0
      · simp [Array.getElem?_eq_none h']
    refine ⟨fun h => (by rw [h] at hr; cases hr), fun j hj => ?_⟩
    rcases Nat.decEq j i with hji | hji
    · obtain ⟨hjun, oj, hoj, hall⟩ := mem_ready.1 hj
      have hnot : ∀ e ∈ oj.after, Region.binds .any e = true → e.on ≠ i := fun e he hb heq => by
        have h1 := hall e he hb
        rw [heq, hun] at h1
        cases h1
      have h2 := wpOp_putIf hoj (hfree j oj hoj hji hjun hnot) (fun cs b => hsel i oi cs b hi) (fun cs b => hsel j oj cs b hoj) hQ hy (H.2 j (ready_mono hj hji))
      have hfree' : ∀ k ok, ops[k]? = some ok → k ≠ i → (l.setIfInBounds j true).getD k true = false → (∀ e ∈ ok.after, Region.binds .any e = true → e.on ≠ i) → oi.apart ops ok = true := fun k ok hk hki hku hno => by
        refine hfree k ok hk hki ?_ hno
        rcases Nat.decEq j k with hjk | hjk
        · rwa [getD_set_ne true hjk] at hku
        · subst hjk; exact hjun
      have hlj := hinv l j oj hl hoj hnot
      have hto : ∀ w' : World, (noFin F ((l.setIfInBounds i true).setIfInBounds j true) → S w') → noFin F (l.setIfInBounds j true) → S w' := fun w' h h' => h (by
        rw [Array.setIfInBounds_comm _ _ (Ne.symm hji)]
        exact noFin_set h' hFi)
      refine wpOp_mono (fun a' w' h3 => ⟨hto w' h3.2.1, ih (l.setIfInBounds j true) a' w' hfree' (ready_mono hr (Ne.symm hji)) h3.1 hlj (hS0 _ w' hlj (hto w' h3.2.1)) (hto w' h3.2.1) ?_⟩) h2
      rw [Array.setIfInBounds_comm _ _ hji]
      exact h3.2.2
    · subst hji
      exact hy.wpOp hi hS ⟨fun h => hS1 (hback _ h), H⟩

/-- Each of the last waits for number i. -/
def lastWait (ops : Array Oper) (F : Nat → Bool) (l : Array Bool) (i : Nat) : Bool :=
  !F i && ((List.range ops.size).all fun j => !(F j && l.getD j false)) && (List.range ops.size).all fun j => !F j || (match ops[j]? with | some o => o.after.any fun e => Region.binds .any e && e.on == i | none => true)

theorem lastWait_spec {i : Nat} {l : Array Bool} (hl : l.size = ops.size) (h : lastWait ops F l i = true) : F i = false ∧ noFin F l ∧ ∀ (j : Nat) (o : Oper), ops[j]? = some o → F j = true → ∃ e ∈ o.after, Region.binds .any e = true ∧ e.on = i := by
  unfold lastWait at h
  simp only [Bool.and_eq_true, Bool.not_eq_true', List.all_eq_true, List.mem_range] at h
  refine ⟨h.1.1, fun j hj => ?_, fun j o ho hj => ?_⟩
  · rcases Nat.lt_or_ge j ops.size with hlt | hge
    · have h1 := h.1.2 j hlt
      rw [hj, Bool.true_and] at h1
      exact h1
    · simp [Array.getElem?_eq_none (by omega : l.size ≤ j)]
  · have hlt : j < ops.size := (Array.getElem?_eq_some_iff.1 ho).1
    have h1 := h.2 j hlt
    rw [hj, ho] at h1
    simp only [Bool.not_true, Bool.false_or, Array.any_eq_true] at h1
    obtain ⟨k, hk, he⟩ := h1
    simp only [Bool.and_eq_true, beq_iff_eq] at he
    exact ⟨_, Array.getElem_mem hk, he.1, he.2⟩

theorem pf_start {id : Nat} {a : Act} {w : World} {Q : Exit → Act → World → Prop} (n : Nat) (hn : ops.size = n) (S : World → Prop) (F : Nat → Bool) (hm : P.follows .mixedOrders = true)
    (h : wpAnyF P ops (PQ (Q .normal)) S F n (Array.replicate n false) a w.drew) : (Code.region id ops true).wp P Q a w := by
  subst hn
  refine Code.wp_mono ?_ (wp_region_any (Q := PQ (Q .normal)) hm (wpAny_of_F _ _ _ _ h))
  intro e a w q
  cases e <;> first | exact q | exact (q : False).elim

theorem pf_take {i fuel : Nat} {o : Oper} {listed : Array Bool} {a : Act} {w : World} (d : Nat) (hi : ops[i]? = some o) (hv : valueOp o.op = true) (hdst : o.dst = some d) (hs : Region.noSelect ops = true)
    (hf : Region.free .any ops listed i = true) (hr : (Region.ready .any ops listed).contains i = true) (hl : lastWait ops F listed i = true) (hsz : listed.size = ops.size) (hd : d < a.tmps.size) (hS : S w)
    (h : ∃ A, (∀ w', S w' → wpList P ops (Exit.then (fun a' w'' => w'' = w' ∧ a' = A) noExit) [o] a w') ∧ wpAnyF P ops (PQ K) S F fuel (listed.setIfInBounds i true) A w) : wpAnyF P ops (PQ K) S F (fuel + 1) listed a w := by
  obtain ⟨A, hrun, h⟩ := h
  have key : ∀ w', S w' → (Region.wanted o (yielded ops a.tmps) = true ∧ ∃ v, (execOp a.eval o).run P w' = .ok (.value v) w' ∧ a.put o.dst v = A) ∨ (Region.wanted o (yielded ops a.tmps) = false ∧ a.put o.dst undef = A) := by
    intro w' hS'
    have h1 := hrun w' hS'
    unfold wpList at h1
    cases hw : Region.wanted o (yielded ops a.tmps) with
    | true =>
      rw [hw, if_pos rfl] at h1
      rcases h1 with h1 | ⟨_, a0, w0, hf⟩
      · left
        refine ⟨rfl, ?_⟩
        unfold Oper.wp at h1
        cases hx : (execOp a.eval o).run P w' with
        | ok n w1 =>
          obtain ⟨v, rfl⟩ := valueOp_run hv hx
          rw [hx, Oper.upon_value] at h1
          obtain ⟨rfl, h2⟩ := (h1 : w1 = w' ∧ _)
          exact ⟨v, rfl, h2⟩
        | halt x w1 =>
          rw [hx] at h1
          cases x <;> exact (h1 : False).elim
      · exact (hf : False).elim
    | false =>
      rw [hw] at h1
      exact .inr ⟨rfl, (h1 : w' = w' ∧ _).2⟩
  have hap : ∃ v, YieldsIf P ops S o v a ∧ a.put o.dst v = A := by
    rcases key w hS with ⟨hw, v, hv1, hv2⟩ | ⟨hw, h2⟩
    · refine ⟨v, .inl ⟨hw, fun w' hS' => ?_⟩, hv2⟩
      rcases key w' hS' with ⟨_, v', h3, h4⟩ | ⟨hw', _⟩
      · rw [h3]
        rw [← hv2, hdst] at h4
        rw [put_inj h4 hd]
      · rw [hw] at hw'; cases hw'
    · exact ⟨undef, .inr ⟨hw, rfl⟩, h2⟩
  obtain ⟨v, hy, rfl⟩ := hap
  obtain ⟨h1, h2, h3⟩ := lastWait_spec hsz hl
  refine wpAnyF_first (S0 := S) (inv := noFin F) hi (Region.noSelect_spec hs) (fun _ _ _ h => h) h1 (fun l j o' hinv hj hn => ?_) (fun l w' hinv h => h hinv) fuel listed a w (Region.free_spec hi hf) (by simpa using hr) hy h2 hS (fun _ => hS) h
  refine noFin_set hinv ?_
  cases hc : F j with
  | false => rfl
  | true =>
    obtain ⟨e, he, hb, heq⟩ := h3 j o' hj hc
    exact absurd heq (hn e he hb)

/-- Number i yields the same in every world. -/
theorem pf_free {i fuel : Nat} {o : Oper} {listed : Array Bool} {a : Act} {w : World} (d : Nat) (hi : ops[i]? = some o) (hv : valueOp o.op = true) (hdst : o.dst = some d) (hs : Region.noSelect ops = true)
    (hf : Region.free .any ops listed i = true) (hr : (Region.ready .any ops listed).contains i = true) (hFi : F i = false) (hd : d < a.tmps.size) (hS : noFin F listed → S w)
    (h : ∃ A, (∀ w', wpList P ops (Exit.then (fun a' w'' => w'' = w' ∧ a' = A) noExit) [o] a w') ∧ wpAnyF P ops (PQ K) S F fuel (listed.setIfInBounds i true) A w) : wpAnyF P ops (PQ K) S F (fuel + 1) listed a w := by
  obtain ⟨A, hrun, h⟩ := h
  have key : ∀ w', (Region.wanted o (yielded ops a.tmps) = true ∧ ∃ v, (execOp a.eval o).run P w' = .ok (.value v) w' ∧ a.put o.dst v = A) ∨ (Region.wanted o (yielded ops a.tmps) = false ∧ a.put o.dst undef = A) := by
    intro w'
    have h1 := hrun w'
    unfold wpList at h1
    cases hw : Region.wanted o (yielded ops a.tmps) with
    | true =>
      rw [hw, if_pos rfl] at h1
      rcases h1 with h1 | ⟨_, a0, w0, hf⟩
      · left
        refine ⟨rfl, ?_⟩
        unfold Oper.wp at h1
        cases hx : (execOp a.eval o).run P w' with
        | ok n w1 =>
          obtain ⟨v, rfl⟩ := valueOp_run hv hx
          rw [hx, Oper.upon_value] at h1
          obtain ⟨rfl, h2⟩ := (h1 : w1 = w' ∧ _)
          exact ⟨v, rfl, h2⟩
        | halt x w1 =>
          rw [hx] at h1
          cases x <;> exact (h1 : False).elim
      · exact (hf : False).elim
    | false =>
      rw [hw] at h1
      exact .inr ⟨rfl, (h1 : w' = w' ∧ _).2⟩
  have hap : ∃ v, YieldsIf P ops (fun _ => True) o v a ∧ a.put o.dst v = A := by
    rcases key w with ⟨hw, v, hv1, hv2⟩ | ⟨hw, h2⟩
    · refine ⟨v, .inl ⟨hw, fun w' _ => ?_⟩, hv2⟩
      rcases key w' with ⟨_, v', h3, h4⟩ | ⟨hw', _⟩
      · rw [h3]
        rw [← hv2, hdst] at h4
        rw [put_inj h4 hd]
      · rw [hw] at hw'; cases hw'
    · exact ⟨undef, .inr ⟨hw, rfl⟩, h2⟩
  obtain ⟨v, hy, rfl⟩ := hap
  exact wpAnyF_first (S0 := fun _ => True) (inv := fun _ => True) hi (Region.noSelect_spec hs) (fun _ _ _ h => h) hFi (fun _ _ _ _ _ _ => trivial) (fun _ _ _ _ => trivial) fuel listed a w (Region.free_spec hi hf) (by simpa using hr) hy trivial trivial hS h

/-- Number i is not wanted: its guard says so. -/
theorem pf_skip {i fuel : Nat} {o : Oper} {listed : Array Bool} {a : Act} {w : World} (hi : ops[i]? = some o) (hw : Region.wanted o (yielded ops a.tmps) = false) (hs : Region.noSelect ops = true)
    (hf : Region.free .any ops listed i = true) (hr : (Region.ready .any ops listed).contains i = true) (hFi : F i = false) (hS : noFin F listed → S w)
    (h : ∃ A, a.put o.dst undef = A ∧ wpAnyF P ops (PQ K) S F fuel (listed.setIfInBounds i true) A w) : wpAnyF P ops (PQ K) S F (fuel + 1) listed a w := by
  obtain ⟨A, rfl, h⟩ := h
  exact wpAnyF_first (S0 := fun _ => True) (inv := fun _ => True) hi (Region.noSelect_spec hs) (fun _ _ _ h => h) hFi (fun _ _ _ _ _ _ => trivial) (fun _ _ _ _ => trivial) fuel listed a w (Region.free_spec hi hf) (by simpa using hr) (.inr ⟨hw, rfl⟩) trivial trivial hS h

theorem pf_op {i : Nat} {o : Oper} {a : Act} {w : World} {X : Act → World → Prop} (hi : ops[i]? = some o) (h : wpList P ops (Exit.then X noExit) [o] a w) : wpOp P ops (PQ K) i X a w := by
  unfold wpOp
  rw [hi]
  simp only
  unfold wpList at h
  split
  · rename_i hw
    rw [if_pos hw] at h
    rcases h with h | ⟨hk, a0, w0, hf⟩
    · left
      unfold Oper.wp at h ⊢
      generalize (execOp a.eval o).run P w = r at h ⊢
      cases r with
      | ok n w1 =>
        cases n <;> simp only [Oper.upon] at h ⊢ <;> first
          | exact h
          | exact Calls.mono h (fun e w2 he => by
              cases e with
              | returned v => exact he
              | panicked c => exact (he : False).elim
              | outgrown => obtain ⟨_, _, hf⟩ := he; exact (hf : False).elim)
          | exact Rows.mono h (fun _ _ he => he)
      | halt x w1 =>
        cases x <;> simp only [Oper.upon] at h ⊢ <;> exact h
    · exact (hf : False).elim
  · rename_i hw
    rw [if_neg hw] at h
    exact h

/-- Number i alone may come up; S stands behind it. -/
theorem pf_heavy {i fuel : Nat} {o : Oper} {listed : Array Bool} {a : Act} {w : World} (hi : ops[i]? = some o) (hr : Region.ready .any ops listed = [i])
    (h : wpList P ops (Exit.then (fun a' w' => S w' ∧ wpAnyF P ops (PQ K) S F fuel (listed.setIfInBounds i true) a' w') noExit) [o] a w) : wpAnyF P ops (PQ K) S F (fuel + 1) listed a w := by
  refine ⟨fun h0 => absurd (hr ▸ h0) (by simp), fun j hj => ?_⟩
  rw [hr, List.mem_singleton] at hj
  subst hj
  exact wpOp_mono (fun a' w' h' => ⟨fun _ => h'.1, h'.2⟩) (pf_op hi h)

/-- One of the last has come up. -/
def finB (F : Nat → Bool) (l : Array Bool) : Bool := (List.range l.size).any fun j => F j && l.getD j false

theorem finB_spec {l : Array Bool} (h : finB F l = true) : ¬ noFin F l := fun hn => by
  unfold finB at h
  simp only [List.any_eq_true, List.mem_range, Bool.and_eq_true] at h
  obtain ⟨j, _, h1, h2⟩ := h
  rw [hn j h1] at h2
  cases h2

/-- Number i alone may come up, one of the last, or behind one. -/
theorem pf_last {i fuel : Nat} {o : Oper} {listed : Array Bool} {a : Act} {w : World} (hi : ops[i]? = some o) (hr : Region.ready .any ops listed = [i]) (hF : finB F (listed.setIfInBounds i true) = true)
    (h : wpList P ops (Exit.then (fun a' w' => wpAnyF P ops (PQ K) S F fuel (listed.setIfInBounds i true) a' w') noExit) [o] a w) : wpAnyF P ops (PQ K) S F (fuel + 1) listed a w := by
  refine ⟨fun h0 => absurd (hr ▸ h0) (by simp), fun j hj => ?_⟩
  rw [hr, List.mem_singleton] at hj
  subst hj
  exact wpOp_mono (fun a' w' h' => ⟨fun hc => absurd hc (finB_spec hF), h'⟩) (pf_op hi h)

theorem pf_done {fuel : Nat} {listed : Array Bool} {a : Act} {w : World} (hr : Region.ready .any ops listed = []) (h : K a w) : wpAnyF P ops (PQ K) S F fuel listed a w := by
  cases fuel with
  | zero => exact ⟨hr, h⟩
  | succ n => exact ⟨fun _ => h, fun i hi => by rw [hr] at hi; exact absurd hi (by simp)⟩

end
end Go.Proofs.Ytbabjepblakboaa
