/- What the arguments of laws read as: hashes, lists of hashes, paths. -/
import Derived.Test.YtbabjepblakboaaRowB
import Derived.Test.YtbabjepblakboaaYb
namespace Go.Proofs.Ytbabjepblakboaa
set_option linter.unusedVariables false
set_option linter.unusedSimpArgs false
open Go.ChangeShapes Go.WideShapes Go.ChangeAt Go.RowKit Go.Deep

section
variable {H : Type} {enc : TypeId × Value → H} {P : Program} {w : World} {base : Nat} {spare : Nat → Bool} {held : Bool}

theorem tA1 {t0 : TypeId} {args : Array Value} {ds : List (DataW H)} {ps : List MemPlace} (h : DataW.TrodAll enc P w base spare held [t0] args.toList ds ps) :
    ∃ v0 d0 p0, args = #[v0] ∧ ds = [d0] ∧ ps = p0 ∧ DataW.Trod enc P w base spare held t0 v0 d0 p0 := by
  obtain ⟨v0, vs0, d0, ds0, p0, q0, hargs, rfl, rfl, h0, r0⟩ := trodAll_cons h
  obtain ⟨rfl, rfl, rfl⟩ := trodAll_nil r0
  exact ⟨v0, d0, p0, by cases args; simp_all, rfl, by simp, h0⟩

theorem tA2 {t0 t1 : TypeId} {args : Array Value} {ds : List (DataW H)} {ps : List MemPlace} (h : DataW.TrodAll enc P w base spare held [t0, t1] args.toList ds ps) :
    ∃ v0 v1 d0 d1 p0 p1, args = #[v0, v1] ∧ ds = [d0, d1] ∧ ps = p0 ++ p1 ∧ DataW.Trod enc P w base spare held t0 v0 d0 p0 ∧ DataW.Trod enc P w base spare held t1 v1 d1 p1 := by
  obtain ⟨v0, vs0, d0, ds0, p0, q0, hargs, rfl, rfl, h0, r0⟩ := trodAll_cons h
  obtain ⟨v1, vs1, d1, ds1, p1, q1, rfl, rfl, rfl, h1, r1⟩ := trodAll_cons r0
  obtain ⟨rfl, rfl, rfl⟩ := trodAll_nil r1
  exact ⟨v0, v1, d0, d1, p0, p1, by cases args; simp_all, rfl, by simp, h0, h1⟩

theorem tA3 {t0 t1 t2 : TypeId} {args : Array Value} {ds : List (DataW H)} {ps : List MemPlace} (h : DataW.TrodAll enc P w base spare held [t0, t1, t2] args.toList ds ps) :
    ∃ v0 v1 v2 d0 d1 d2 p0 p1 p2, args = #[v0, v1, v2] ∧ ds = [d0, d1, d2] ∧ ps = p0 ++ (p1 ++ p2) ∧ DataW.Trod enc P w base spare held t0 v0 d0 p0 ∧ DataW.Trod enc P w base spare held t1 v1 d1 p1 ∧ DataW.Trod enc P w base spare held t2 v2 d2 p2 := by
  obtain ⟨v0, vs0, d0, ds0, p0, q0, hargs, rfl, rfl, h0, r0⟩ := trodAll_cons h
  obtain ⟨v1, vs1, d1, ds1, p1, q1, rfl, rfl, rfl, h1, r1⟩ := trodAll_cons r0
  obtain ⟨v2, vs2, d2, ds2, p2, q2, rfl, rfl, rfl, h2, r2⟩ := trodAll_cons r1
  obtain ⟨rfl, rfl, rfl⟩ := trodAll_nil r2
  exact ⟨v0, v1, v2, d0, d1, d2, p0, p1, p2, by cases args; simp_all, rfl, by simp, h0, h1, h2⟩

theorem tA4 {t0 t1 t2 t3 : TypeId} {args : Array Value} {ds : List (DataW H)} {ps : List MemPlace} (h : DataW.TrodAll enc P w base spare held [t0, t1, t2, t3] args.toList ds ps) :
    ∃ v0 v1 v2 v3 d0 d1 d2 d3 p0 p1 p2 p3, args = #[v0, v1, v2, v3] ∧ ds = [d0, d1, d2, d3] ∧ ps = p0 ++ (p1 ++ (p2 ++ p3)) ∧ DataW.Trod enc P w base spare held t0 v0 d0 p0 ∧ DataW.Trod enc P w base spare held t1 v1 d1 p1 ∧ DataW.Trod enc P w base spare held t2 v2 d2 p2 ∧ DataW.Trod enc P w base spare held t3 v3 d3 p3 := by
  obtain ⟨v0, vs0, d0, ds0, p0, q0, hargs, rfl, rfl, h0, r0⟩ := trodAll_cons h
  obtain ⟨v1, vs1, d1, ds1, p1, q1, rfl, rfl, rfl, h1, r1⟩ := trodAll_cons r0
  obtain ⟨v2, vs2, d2, ds2, p2, q2, rfl, rfl, rfl, h2, r2⟩ := trodAll_cons r1
  obtain ⟨v3, vs3, d3, ds3, p3, q3, rfl, rfl, rfl, h3, r3⟩ := trodAll_cons r2
  obtain ⟨rfl, rfl, rfl⟩ := trodAll_nil r3
  exact ⟨v0, v1, v2, v3, d0, d1, d2, d3, p0, p1, p2, p3, by cases args; simp_all, rfl, by simp, h0, h1, h2, h3⟩

theorem okW_arr {r : Reach} {b0 : Nat} {t e : TypeId} {n : Nat} {v : Value} (ht : P.underlying t = some (.array n e)) (h : Value.okWide P w r b0 t v) : ∃ cs, v = .agg cs := by
  unfold Value.okWide at h
  rw [ht] at h
  obtain ⟨cs, h1, _⟩ := h
  exact ⟨cs, h1⟩

theorem okW_struct {r : Reach} {b0 : Nat} {t : TypeId} {fs : Array Field} {v : Value} (ht : P.underlying t = some (.struct fs)) (h : Value.okWide P w r b0 t v) : ∃ cs, v = .agg cs := by
  unfold Value.okWide at h
  rw [ht] at h
  obtain ⟨cs, h1, _⟩ := h
  exact ⟨cs, h1⟩

def HashAt (w : World) (b o : Nat) (x : List UInt8) : Prop := x.length = 32 ∧ At w b o (bvs x)

end

section
variable {H : Type} {enc : TypeId × Value → H} {w : World}

theorem opened_hash {fuel : Nat} {cs : List Value} {x : DataW H × List MemPlace} (h : DataW.trod enc Try.prog w 0 (fun _ => true) true fuel 24 cs = some x) : ∃ L : Bs, cs = bvs L ∧ L.length = 32 :=
  opened_array Try.underlying24 Try.underlying5 cellsU8 cellsHash h

theorem hashes_read {v : Value} {l : List Bs} (hv : v = .slice none 0 0 ∨ ∃ a n c, v = .slice (some a) n c ∧ n ≤ c ∧ c ≤ maxLen) (h : Sl HashAt 32 w v l) : Hs w v l := by
  rcases h with ⟨rfl, a, c, rfl⟩ | ⟨b, off, c, rfl, h1, h2, h3⟩
  · refine ⟨fun x hx => by simp at hx, by simp, ?_⟩
    rcases hv with hv | ⟨a', n, c', hv, h1, h2⟩
    · exact .inl ⟨hv, rfl⟩
    · simp only [Value.slice.injEq] at hv
      obtain ⟨rfl, rfl, rfl⟩ := hv
      exact .inr ⟨a', c, rfl, h1, h2, fun j u hj => by simp at hj⟩
  · have h32 : H32 l := fun x hx => by
      obtain ⟨i, hi, rfl⟩ := List.getElem_of_mem hx
      exact (h3 i _ (List.getElem?_eq_getElem hi)).1
    refine ⟨h32, by rw [bvs_length, h32.flat], .inr ⟨_, c, rfl, h1, h2, fun j u hj => ?_⟩⟩
    have hjl : j < l.length * 32 := by
      have := (List.getElem?_eq_some_iff.1 hj).1
      rwa [bvs_length, h32.flat] at this
    obtain ⟨z, hx⟩ : ∃ z, l[j / 32]? = some z := ⟨_, List.getElem?_eq_getElem (show j / 32 < l.length by omega)⟩
    have h4 := (h3 _ _ hx).2
    have h5 := h32.get hx
    obtain ⟨y, hy⟩ : ∃ y, (bvs z)[j % 32]? = some y := ⟨_, List.getElem?_eq_getElem (show j % 32 < (bvs z).length by rw [bvs_length, h5]; exact Nat.mod_lt _ (by decide))⟩
    have h6 := h32.cells hx (j % 32) y hy
    rw [show j / 32 * 32 + j % 32 = j by omega, hj] at h6
    cases h6
    rw [add_at]
    have := h4 _ _ hy
    rw [show off + j = off + j / 32 * 32 + j % 32 by omega]
    exact this

theorem opened_hashes {fuel : Nat} {cs : List Value} {x : DataW H × List MemPlace} (h : DataW.trod enc Try.prog w 0 (fun _ => true) true fuel 22 cs = some x) : ∃ (v : Value) (l : List Bs), cs = [v] ∧ Hs w v l := by
  obtain ⟨v, l, hv, hs⟩ := opened_slice (R := HashAt) Try.underlying22 cellsHash (by decide) (fun fuel cs' y hy _ => by
    obtain ⟨L, rfl, hL⟩ := opened_hash hy
    exact ⟨L, fun b o hat => ⟨hL, hat⟩⟩) h
  refine ⟨v, l, hv, hashes_read ?_ hs⟩
  rcases open_slice Try.underlying22 h with ⟨h0, _⟩ | ⟨a, len, cap, m, n, D, Pl, hcs, hb, hl, hm, hmm, hx, hi⟩
  · rw [hv] at h0; simp at h0; exact .inl h0
  · rw [hv] at hcs; simp at hcs; exact .inr ⟨a, len, cap, hcs, hl, hm⟩

theorem cellsHashes : Try.prog.cellsOf 22 = 1 := by kernel_rfl
theorem cellsPath : Try.prog.cellsOf 92 = 3 := by kernel_rfl

theorem opened_path {fuel : Nat} {cs : List Value} {x : DataW H × List MemPlace} (h : DataW.trod enc Try.prog w 0 (fun _ => true) true fuel 92 cs = some x) :
    ∃ (n c : Int) (v : Value) (l : List Bs), cs = [.int .i64 n, .int .i64 c, v] ∧ Hs w v l := by
  obtain ⟨hl, m, hf⟩ := opened_struct Try.underlying92 h
  rw [cellsPath] at hl
  obtain ⟨y0, h0⟩ := hf 0 3 0 1 rfl cellsI64
  obtain ⟨y1, h1⟩ := hf 1 3 1 1 rfl cellsI64
  obtain ⟨y2, h2⟩ := hf 2 22 2 1 rfl cellsHashes
  obtain ⟨n, hn, _, _⟩ := DataW.trod_int Try.underlying3 h0
  obtain ⟨c, hc, _, _⟩ := DataW.trod_int Try.underlying3 h1
  obtain ⟨v, l, hv, hs⟩ := opened_hashes h2
  rcases cs with _ | ⟨a, _ | ⟨b, _ | ⟨d, _ | ⟨e, r⟩⟩⟩⟩ <;> simp at hl
  simp at hn hc hv
  subst hn hc hv
  exact ⟨n, c, _, l, rfl, hs⟩

end
end Go.Proofs.Ytbabjepblakboaa
