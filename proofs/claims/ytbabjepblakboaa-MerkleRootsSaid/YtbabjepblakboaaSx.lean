/- What is known of the hash; parts joined; texts under a name: the walks. -/
import Derived.Test.YtbabjepblakboaaSw
import Derived.Lib.SlBytesConst
namespace Go.Proofs.Ytbabjepblakboaa
set_option linter.unusedVariables false
set_option linter.unusedSimpArgs false
open Go.RowKit Go.Lib

theorem wpList_unguard' {P : Program} {ops : Array Oper} {rest : List Oper} {d : Option Tmp} {op : Op} {ty : TypeId} {pos : String} {after : Array Edge} {g : Option (Nat × Bool)} {a : Act} {w : World} {Q : Exit → Act → World → Prop}
    (hw : Region.wanted ⟨d, op, ty, pos, after, g⟩ (yielded ops a.tmps) = true) (h : wpList P ops Q (⟨d, op, ty, pos, after, none⟩ :: rest) a w) : wpList P ops Q (⟨d, op, ty, pos, after, g⟩ :: rest) a w := by
  unfold wpList at h ⊢
  rw [if_pos hw]
  rw [if_pos (by rfl)] at h
  exact h

theorem CB.rdAll {w : World} {e : TypeId} {g : Nat} {L : List Value} (h : CB w e g L) (hl : L.length ≤ maxLen) : Rd w 1 (.slice (some ⟨g, 0, none⟩) L.length L.length) L.length L := by
  refine ⟨by simp, .inr ⟨⟨g, 0, none⟩, L.length, rfl, Nat.le_refl _, hl, fun j u hj => ?_⟩⟩
  rw [add_at, Nat.zero_add]
  exact h.cell j u hj

theorem Pts.nil (w : World) : Pts w (.slice none 0 0) [] := ⟨[], Rd.nil w 1, fun i x hx => by simp at hx⟩

theorem Pts.one (w : World) (t : TypeId) (u : Value) (x : List UInt8) (hr : Rd w 1 u x.length (bvs x)) : Pts (w.alloc (.cells #[u] t)) (.slice (some ⟨w.heap.size, 0, none⟩) 1 1) [x] := by
  refine ⟨[u], rd_one w u t, fun i y hy => ?_⟩
  rcases i with _ | i
  · simp only [List.getElem?_cons_zero, Option.some.injEq] at hy
    subst hy
    exact ⟨u, rfl, hr.fresh ((Below.refl _ w).alloc (Nat.le_refl _) _)⟩
  · simp at hy

theorem take4 {l : List UInt8} {a b c d : UInt8} (h : l.take 4 = [a, b, c, d]) : l[0]? = some a ∧ l[1]? = some b ∧ l[2]? = some c ∧ l[3]? = some d := by
  have h0 := congrArg (fun x => x[0]?) h
  have h1 := congrArg (fun x => x[1]?) h
  have h2 := congrArg (fun x => x[2]?) h
  have h3 := congrArg (fun x => x[3]?) h
  simp only [List.getElem?_take] at h0 h1 h2 h3
  exact ⟨by simpa using h0, by simpa using h1, by simpa using h2, by simpa using h3⟩

theorem rd_marked (w : World) (e : TypeId) (L : List UInt8) (fz : Nat × Nat) (hl : L.length ≤ maxLen) : Rd (w.alloc (.cells (bvs L).toArray e fz)) 1 (.slice (some ⟨w.heap.size, 0, none⟩) L.length L.length) L.length (bvs L) := by
  refine ⟨by simp, .inr ⟨⟨w.heap.size, 0, none⟩, L.length, rfl, Nat.le_refl _, hl, fun j u hj => ?_⟩⟩
  rw [add_at, Nat.zero_add]
  simp only [World.cell?, heap_alloc_new]
  simpa using hj
end Go.Proofs.Ytbabjepblakboaa
