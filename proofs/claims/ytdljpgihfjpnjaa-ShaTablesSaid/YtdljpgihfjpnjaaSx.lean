/- What is known of the hash; parts joined; texts under a name: the walks. -/
import Derived.Test.YtdljpgihfjpnjaaSw
import Derived.Lib.SlBytesConst
namespace Go.Proofs.Ytdljpgihfjpnjaa
set_option linter.unusedVariables false
set_option linter.unusedSimpArgs false
open Go.RowKit Go.Lib

theorem wpList_unguard' {P : Program} {ops : Array Oper} {rest : List Oper} {d : Option Tmp} {op : Op} {ty : TypeId} {pos : String} {after : Array Edge} {g : Option (Nat × Bool)} {a : Act} {w : World} {Q : Exit → Act → World → Prop}
    (hw : Region.wanted ⟨d, op, ty, pos, after, g⟩ (yielded ops a.tmps) = true) (h : wpList P ops Q (⟨d, op, ty, pos, after, none⟩ :: rest) a w) : wpList P ops Q (⟨d, op, ty, pos, after, g⟩ :: rest) a w := by
  unfold wpList at h ⊢
  rw [if_pos hw]
  rw [if_pos (by rfl)] at h
  exact h

theorem CB.rdAll {w : World} {e : TypeId} {g : Nat} {L : List Value} (h : CB w e g L) (hl : L.length ≤ maxLen) : Rd w 1 (.slice (some ⟨g, 0, none⟩) L.length L.length) L.length L := by
  refine ⟨by simp, .inr ⟨⟨g, 0, none⟩, L.length, rfl, Nat.le_refl _, hl, fun j u hj => ?_⟩⟩
  rw [add_at, Nat.zero_add]
  exact h.cell j u hj

theorem Pts.nil (w : World) : Pts w (.slice none 0 0) [] := ⟨[], Rd.nil w 1, fun i x hx => by simp at hx⟩

theorem Pts.one (w : World) (t : TypeId) (u : Value) (x : List UInt8) (hr : Rd w 1 u x.length (bvs x)) : Pts (w.alloc (.cells #[u] t)) (.slice (some ⟨w.heap.size, 0, none⟩) 1 1) [x] := by
  refine ⟨[u], rd_one w u t, fun i y hy => ?_⟩
  rcases i with _ | i
  · simp only [List.getElem?_cons_zero, Option.some.injEq] at hy
    subst hy
    exact ⟨u, rfl, hr.fresh ((Below.refl _ w).alloc (Nat.le_refl _) _)⟩
  · simp at hy

theorem take4 {l : List UInt8} {a b c d : UInt8} (h : l.take 4 = [a, b, c, d]) : l[0]? = some a ∧ l[1]? = some b ∧ l[2]? = some c ∧ l[3]? = some d := by
  have h0 := congrArg (fun x => x[0]?) h
  have h1 := congrArg (fun x => x[1]?) h
  have h2 := congrArg (fun x => x[2]?) h
  have h3 := congrArg (fun x => x[3]?) h
  simp only [List.getElem?_take] at h0 h1 h2 h3
  exact ⟨by simpa using h0, by simpa using h1, by simpa using h2, by simpa using h3⟩

theorem rd_marked (w : World) (e : TypeId) (L : List UInt8) (fz : Nat × Nat) (hl : L.length ≤ maxLen) : Rd (w.alloc (.cells (bvs L).toArray e fz)) 1 (.slice (some ⟨w.heap.size, 0, none⟩) L.length L.length) L.length (bvs L) := by
  refine ⟨by simp, .inr ⟨⟨w.heap.size, 0, none⟩, L.length, rfl, Nat.le_refl _, hl, fun j u hj => ?_⟩⟩
  rw [add_at, Nat.zero_add]
  simp only [World.cell?, heap_alloc_new]
  simpa using hj

set_option maxRecDepth 100000 in
theorem sknown_any (w : World) :
    Calls Try.prog 36 #[] w fun e w' => e = .returned (.bool true) ∧ Below w.heap.size w w' := by
  obtain ⟨A, hA⟩ : ∃ A, A = shaB [97, 98, 99] := ⟨_, rfl⟩
  obtain ⟨B, hB⟩ : ∃ B, B = shaB [] := ⟨_, rfl⟩
  have hAl : A.length = 32 := by rw [hA]; exact shaB_length _
  have hBl : B.length = 32 := by rw [hB]; exact shaB_length _
  have hA4 : A.take 4 = [186, 120, 22, 191] := by rw [hA]; exact sha_abc
  have hB4 : B.take 4 = [227, 176, 196, 66] := by rw [hB]; exact sha_nil
  obtain ⟨a0, a1, a2, a3⟩ := take4 hA4
  obtain ⟨b0, b1, b2, b3⟩ := take4 hB4
  have C1 : ∀ (w0 : World) (v : Value), Pts w0 v [[97, 98, 99]] → Calls Try.prog 38 #[v] w0 fun e w' => e = .returned (.agg (bvs A).toArray) ∧ Below w0.heap.size w0 w' := by
    intro w0 v hp
    have h1 := sum_any w0 v _ hp (by decide) (by decide)
    rw [show ([[97, 98, 99]] : List (List UInt8)).flatten = [97, 98, 99] from rfl, ← hA] at h1
    exact h1
  have C2 : ∀ (w0 : World), Calls Try.prog 38 #[.slice none 0 0] w0 fun e w' => e = .returned (.agg (bvs B).toArray) ∧ Below w0.heap.size w0 w' := by
    intro w0
    have h1 := sum_any w0 _ _ (Pts.nil w0) (by decide) (by decide)
    rw [show ([] : List (List UInt8)).flatten = [] from rfl, ← hB] at h1
    exact h1
  have HC1 := Lib.hid C1
  have HC2 := Lib.hid C2
  have HA := Lib.hid (And.intro a0 (And.intro a1 (And.intro a2 a3)))
  have HB := Lib.hid (And.intro b0 (And.intro b1 (And.intro b2 b3)))
  have HAL := Lib.hid hAl
  have HBL := Lib.hid hBl
  clear hA hB C1 C2 a0 a1 a2 a3 b0 b1 b2 b3 hAl hBl hA4 hB4
  go_enter Try.func36, Try.ntmps36
  have hcv := Go.Lib.run_convert_bytes_const (P := Try.prog) w 25 5 #[.int .u8 97, .int .u8 98, .int .u8 99] 3 3 Try.underlying25 Try.underlying5
  go_wp2_with fail
  obtain ⟨wk, hwk, hz, hbk, hr⟩ : ∃ wk, wk = w.alloc (.cells (bvs [97, 98, 99]).toArray 5 (3, 4)) ∧ wk.heap.size = w.heap.size + 1 ∧ Below w.heap.size w wk ∧ Rd wk 1 (.slice (some ⟨w.heap.size, 0, none⟩) 3 3) 3 (bvs [97, 98, 99]) :=
    ⟨_, rfl, Array.size_push _, (Below.refl _ w).alloc (Nat.le_refl _) _, rd_marked w 5 [97, 98, 99] (3, 4) (by simp [maxLen])⟩
  change Calls _ _ _ ((w.alloc (.cells (bvs [97, 98, 99]).toArray 5 (3, 4))).alloc _) _
  rw [← hwk]
  clear hwk
  have hp := Pts.one wk 25 (.slice (some ⟨w.heap.size, 0, none⟩) 3 3) [97, 98, 99] hr
  rw [hz] at hp
  have hbm : Below w.heap.size w (wk.alloc (.cells #[.slice (some ⟨w.heap.size, 0, none⟩) 3 3] 25)) := hbk.alloc hbk.size _
  have HBM := Lib.hid hbm
  clear hbm hbk hcv hr
  refine (HC1.out _ _ hp).mono ?_
  rintro e w1 ⟨rfl, hb1⟩
  have hB1 : Below w.heap.size w w1 := HBM.out.trans (hb1.mono HBM.out.size)
  clear hp hb1
  go_wp2_with fail
  refine (HC2.out _).mono ?_
  rintro e w2 ⟨rfl, hb2⟩
  have hB2 : Below w.heap.size w w2 := hB1.trans (hb2.mono hB1.size)
  have HB2 := Lib.hid hB2
  clear hB1 hb2 hB2
  go_wp2_with (with_reducible refine stopStore 30 ?_)
  refine Stop.go ?_
  obtain ⟨w3, hw3, h3k, h3b, h3z⟩ := alloc_cb w2 30 (bvs (List.replicate 32 0))
  obtain ⟨w4, hw4, h4k, h4b, h4z⟩ := alloc_cb w3 30 (bvs (List.replicate 32 0))
  change wpList _ _ _ _ _ ((w2.alloc (.cells (bvs (List.replicate 32 0)).toArray 30)).alloc (.cells (bvs (List.replicate 32 0)).toArray 30))
  rw [← hw3, ← hw4]
  clear hw3 hw4
  obtain ⟨G, hG⟩ : ∃ G, G = w2.heap.size := ⟨_, rfl⟩
  rw [h3z] at h4k
  have h3k' := h3k.fresh h4b
  have hb4 : Below w.heap.size w w4 := (HB2.out.trans (h3b.mono HB2.out.size)).trans (h4b.mono (by have := HB2.out.size; omega))
  have hGw : w.heap.size ≤ G := by rw [hG]; exact HB2.out.size
  rw [← hG] at h3k' h4k ⊢
  clear hG
  refine wpList_store_var rfl 30 (.tmp 1) (.tmp 6) rfl G _ rfl _ (bvs A) rfl h3k' (by simp [HAL.out]) (bvs_one _) (by rw [bvs_length, HAL.out]; exact infoHash) ?_
  intro w5 hb5 ho5
  have h5k : CB w5 30 (G + 1) (bvs (List.replicate 32 0)) := h4k.only ho5 (by omega)
  have hB5 : Below w.heap.size w w5 := Below.only hb4 ho5 hGw
  have HA5 : Hid (BB w5 30 G A) := Lib.hid hb5
  clear hb5 ho5 h4k h3k' hb4 h3k h3b h3z h4b h4z
  go_wp2_with (with_reducible refine stopStore 30 ?_)
  refine Stop.go ?_
  refine wpList_store_var rfl 30 (.tmp 2) (.tmp 7) rfl (G + 1) _ rfl _ (bvs B) rfl h5k (by simp [HBL.out]) (bvs_one _) (by rw [bvs_length, HBL.out]; exact infoHash) ?_
  intro w6 hb6 ho6
  have hB6 : Below w.heap.size w w6 := Below.only hB5 ho6 (by omega)
  have hA6 : BB w6 30 G A := HA5.out.only ho6 (by omega)
  have hB6b : BB w6 30 (G + 1) B := hb6
  have HB6 := Lib.hid hB6
  have c0 := hA6.cell 0 _ HA.out.1
  have c1 := hA6.cell 1 _ HA.out.2.1
  have c2 := hA6.cell 2 _ HA.out.2.2.1
  have c3 := hA6.cell 3 _ HA.out.2.2.2
  have d0 := hB6b.cell 0 _ HB.out.1
  have d1 := hB6b.cell 1 _ HB.out.2.1
  have d2 := hB6b.cell 2 _ HB.out.2.2.1
  have d3 := hB6b.cell 3 _ HB.out.2.2.2
  rw [show bv 186 = .int .u8 186 from rfl] at c0
  rw [show bv 120 = .int .u8 120 from rfl] at c1
  rw [show bv 22 = .int .u8 22 from rfl] at c2
  rw [show bv 191 = .int .u8 191 from rfl] at c3
  rw [show bv 227 = .int .u8 227 from rfl] at d0
  rw [show bv 176 = .int .u8 176 from rfl] at d1
  rw [show bv 196 = .int .u8 196 from rfl] at d2
  rw [show bv 66 = .int .u8 66 from rfl] at d3
  clear hB6 hA6 hB6b hb6 ho6 h5k hB5 HA5
  go_wp2
  go_ret
  exact ⟨rfl, HB6.out⟩
end Go.Proofs.Ytdljpgihfjpnjaa
