/- Disks: behind a loss of power: laws for the law's walk. -/
import Derived.Test.YtbbbgpdhdlknjaaEf
namespace Go.Proofs.Ytbbbgpdhdlknjaa
set_option linter.unusedVariables false
set_option linter.unusedSimpArgs false
open Go.RowKit Go.Lib

theorem Mv.ktR {G : Nat} {pv : Value} {w w' : World} {k : Dk} (m : Mv G G pv w w') (h : RK w G pv k) : Kt [41, 83] w w' := by
  obtain ⟨ls, css, h⟩ := h
  intro g e ht he
  refine m.block g ht.lt (fun e1 => ?_) (fun e1 => ?_) (fun e1 => ?_)
  · exact ht.ne h.cr.tag (fun e2 => he (by simp [e2])) e1
  · exact ht.ne h.cr.tag (fun e2 => he (by simp [e2])) e1
  · exact ht.ne (h.wt.tag g e1) (fun e2 => he (by simp [e2])) rfl

theorem DkAt.kt {w w' : World} {D S : Nat} {wv : Value} {k : Dk} {E : List TypeId} (h : DkAt w D S wv k) (hk : Kt E w w') (h1 : 5 ∉ E) (h2 : 3 ∉ E) (h3 : 29 ∉ E) (h4 : 65 ∉ E) (h5 : 62 ∉ E) (h6 : 78 ∉ E) : DkAt w' D S wv k := by
  obtain ⟨vs, ns, css, h⟩ := h
  exact ⟨vs, ns, css, h.kt hk h1 h2 h3 h4 h5 h6⟩

/-- A row's beginning. -/
theorem VwS.to {w : World} {e : TypeId} {size : Nat} {a : Option Addr} {n c : Nat} {cs : List Value} (h : VwS w e size (.slice a n c) n cs) (j : Nat) (hj : j ≤ n) : VwS w e size (.slice a j c) j (cs.take (j * size)) := by
  rcases h with ⟨he, h0, h1⟩ | ⟨g, off, c', cur, he, hnc, hcm, hcb, hoc, hcl, hct⟩
  · simp only [Value.slice.injEq] at he
    obtain ⟨rfl, rfl, rfl⟩ := he
    obtain rfl : j = 0 := by omega
    exact .inl ⟨rfl, rfl, by simp⟩
  · simp only [Value.slice.injEq, true_and] at he
    obtain ⟨rfl, rfl⟩ := he
    have hsz : j * size ≤ n * size := Nat.mul_le_mul_right _ hj
    refine .inr ⟨g, off, c, cur, rfl, by omega, hcm, hcb, hoc, by rw [List.length_take, hcl]; omega, ?_⟩
    rw [← hct, List.take_take]
    congr 1
    omega

theorem drop_flat4 {css : List (List Value)} (h : ∀ cs ∈ css, cs.length = 4) : ∀ n, css.flatten.drop (n * 4) = (css.drop n).flatten := by
  induction css with
  | nil => intro n; simp
  | cons c css ih =>
    intro n
    have hc := h c (by simp)
    rcases n with _ | n
    · simp
    · rw [List.flatten_cons, List.drop_succ_cons, Nat.add_mul, Nat.one_mul, Nat.add_comm, ← List.drop_drop, ← hc, List.drop_left]
      rw [hc]
      exact ih (fun x hx => h x (by simp [hx])) n

theorem take_flat4 {css : List (List Value)} (h : ∀ cs ∈ css, cs.length = 4) : ∀ n, css.flatten.take (n * 4) = (css.take n).flatten := by
  induction css with
  | nil => intro n; simp
  | cons c css ih =>
    intro n
    have hc := h c (by simp)
    rcases n with _ | n
    · simp
    · rw [List.flatten_cons, List.take_succ_cons, List.flatten_cons, Nat.add_mul, Nat.one_mul, Nat.add_comm, ← hc, List.take_length_add_append]
      rw [hc]
      rw [ih (fun x hx => h x (by simp [hx])) n]

theorem wpList_build {P : Program} {ops : Array Oper} {rest : List Oper} {o : Oper} {a : Act} {w : World} {Q : Exit → Act → World → Prop} (hgd : o.guard = none) (t : TypeId) (parts : Array (Nat × Operand)) (ho : o.op = .build t parts) (v : Value)
    (hr : (Instr.build t (parts.map fun (i, x) => (i, a.eval x))).run P w = .ok v w)
    (h : wpList P ops Q rest (a.put o.dst v) w) : wpList P ops Q (o :: rest) a w := by
  refine wpList_plain hgd fun _ hK => ?_
  unfold Oper.wp execOp
  simp only [ho, Sem.run_bind, Sem.run_pure, hr, Result.andThen_ok]
  exact hK _ _ h

theorem build_rd (w : World) (ls : List Value) (v : Value) (a : Option Addr) (n c : Nat) (h : ls.length = 16) (hv : v = .slice a n c) : (Instr.build 41 #[(0, .agg ls.toArray), (1, v)]).run Try.prog w = .ok (.agg (ls ++ [v, .int .i64 0, .bool false]).toArray) w := by
  subst hv
  rcases ls with _ | ⟨x0, _ | ⟨x1, _ | ⟨x2, _ | ⟨x3, _ | ⟨x4, _ | ⟨x5, _ | ⟨x6, _ | ⟨x7, _ | ⟨x8, _ | ⟨x9, _ | ⟨x10, _ | ⟨x11, _ | ⟨x12, _ | ⟨x13, _ | ⟨x14, _ | ⟨x15, _ | ⟨x16, r⟩⟩⟩⟩⟩⟩⟩⟩⟩⟩⟩⟩⟩⟩⟩⟩⟩ <;> simp at h
  kernel_rfl

theorem settle_set (k : Dk) (n : Nat) : (settleK k n).set = (k.wait.take n).foldl app k.set := rfl

theorem RkV.rest {w : World} {G : Nat} {ls : List Value} {a : Option Addr} {n c : Nat} {css : List (List Value)} {set : List Bs} {wait : List St} {f : Int} {d : Bool} (h : RkV w G ls (.slice a n c) css set wait f d) (hn : n = wait.length) (j : Nat) (hj : j ≤ n) :
    ∃ css' : List (List Value), Rd w 4 (.slice (if c = j then a else a.map (·.add (j * 4))) (n - j) (c - j)) (wait.drop j).length css'.flatten ∧ css'.length = (wait.drop j).length ∧ ∀ (i : Nat) (x : St) (cs : List Value), (wait.drop j)[i]? = some x → css'[i]? = some cs → PtC w cs x := by
  refine ⟨css.drop j, ?_, by simp [h.wl], fun i x cs hx hc => ?_⟩
  · have hw : VwS w 83 4 (.slice a n c) n css.flatten := by have := h.wt; rw [← hn] at this; exact this
    have := (hw.from j hj).rd
    rw [drop_flat4 h.clen] at this
    rw [List.length_drop, ← hn]
    exact this
  · rw [List.getElem?_drop] at hx hc
    exact h.ws _ x cs hx hc

theorem RkV.pre {w w' : World} {G G' : Nat} {ls : List Value} {a : Option Addr} {n c : Nat} {css : List (List Value)} {set : List Bs} {wait : List St} {f : Int} {d : Bool} (h : RkV w G ls (.slice a n c) css set wait f d) (hn : n = wait.length) (j : Nat) (hj : j ≤ n) (hb : Below w.heap.size w w')
    (hc : CB w' 41 G' (ls ++ [.slice a j c, .int .i64 0, .bool false])) : RkAt w' G' (.slice a j c) set (wait.take j) 0 false := by
  have h' := h.fresh hb
  have hw : VwS w' 83 4 (.slice a n c) n css.flatten := by have := h'.wt; rw [← hn] at this; exact this
  refine ⟨ls, css.take j, hc, h'.ll, ?_, by simp [h.wl], fun i x cs hx hcs => ?_⟩
  · have := hw.to j hj
    rw [take_flat4 h.clen] at this
    rw [List.length_take, ← hn, Nat.min_eq_left hj]
    exact this
  · have hi : i < j := by
      rcases Nat.lt_or_ge i j with h1 | h1
      · exact h1
      · rw [List.getElem?_eq_none (by rw [List.length_take]; omega)] at hx
        cases hx
    rw [List.getElem?_take, if_pos hi] at hx hcs
    exact h'.ws i x cs hx hcs

end Go.Proofs.Ytbbbgpdhdlknjaa
