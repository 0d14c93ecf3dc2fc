/- Texts Sh Su Sw Sx Sy Sz, one behind the other. -/
import Derived.Test.YtkbahhnjoidhcaaG2
import Derived.Test.YtkbahhnjoidhcaaSp
import Derived.Test.YtkbahhnjoidhcaaG1
import Derived.Test.YtkbahhnjoidhcaaSr
import Derived.Lib.SlBytesConst
import Derived.Lib.AppendStr
/- The hasher: bytes are added. -/
namespace Go.Proofs.Ytkbahhnjoidhcaa
set_option linter.unusedVariables false
set_option linter.unusedSimpArgs false
open Go.RowKit Go.Lib

/-- The hasher's cells. -/
def hcells (ks : List W32) (s : St) (lv : Value) (n : Nat) : List Value := wds ks ++ wds s.l ++ [lv, .int .u64 (n : Int)]

theorem hcells_length (ks : List W32) (hk : ks.length = 64) (s : St) (lv : Value) (n : Nat) : (hcells ks s lv n).length = 74 := by
  simp [hcells, hk, St.l]

theorem hcells_k (ks : List W32) (hk : ks.length = 64) (s : St) (lv : Value) (n : Nat) : (hcells ks s lv n).take 64 = wds ks := by
  unfold hcells
  rw [List.append_assoc, List.take_append_of_le_length (by simp [hk]), List.take_of_length_le (by simp [hk])]

theorem hcells_s (ks : List W32) (hk : ks.length = 64) (s : St) (lv : Value) (n : Nat) (j : Nat) (hj : j < 8) : (hcells ks s lv n)[64 + j]? = (wds s.l)[j]? := by
  unfold hcells
  rw [List.append_assoc, List.getElem?_append_right (by simp [hk]), List.getElem?_append_left (by simp [hk, St.l]; omega)]
  simp [hk]

theorem hcells_l (ks : List W32) (hk : ks.length = 64) (s : St) (lv : Value) (n : Nat) : (hcells ks s lv n)[72]? = some lv := by
  unfold hcells
  rw [List.getElem?_append_right (by simp [hk, St.l])]
  simp [hk, St.l]

theorem hcells_n (ks : List W32) (hk : ks.length = 64) (s : St) (lv : Value) (n : Nat) : (hcells ks s lv n)[73]? = some (.int .u64 (n : Int)) := by
  unfold hcells
  rw [List.getElem?_append_right (by simp [hk, St.l])]
  simp [hk, St.l]

theorem hcells_setN (ks : List W32) (hk : ks.length = 64) (s : St) (lv : Value) (n m : Nat) : (hcells ks s lv n).set 73 (.int .u64 (m : Int)) = hcells ks s lv m := by
  unfold hcells
  rw [List.set_append_right _ _ (by simp [hk, St.l])]
  simp [hk, St.l]

theorem hcells_setL (ks : List W32) (hk : ks.length = 64) (s : St) (lv lv' : Value) (n : Nat) : (hcells ks s lv n).set 72 lv' = hcells ks s lv' n := by
  unfold hcells
  rw [List.set_append_right _ _ (by simp [hk, St.l])]
  simp [hk, St.l]

theorem hcells_setS (ks : List W32) (hk : ks.length = 64) (s s' : St) (lv : Value) (n : Nat) : (hcells ks s lv n).take 64 ++ wds s'.l ++ (hcells ks s lv n).drop (64 + (wds s'.l).length) = hcells ks s' lv n := by
  rw [hcells_k ks hk]
  unfold hcells
  congr 1
  rw [List.drop_append_of_le_length (by simp [hk, St.l])]
  rw [List.drop_eq_nil_of_le (by simp [hk, St.l])]
  rfl

theorem hcells_loadK {w : World} {T : TypeId} {H : Nat} {ks : List W32} {s : St} {lv : Value} {n : Nat} (h : CB w T H (hcells ks s lv n)) (hk : ks.length = 64) : ∀ j u, (wds ks)[j]? = some u → w.cell? ((⟨H, 0, none⟩ : Addr).add j) = some u := by
  intro j u hj
  rw [add_at, Nat.zero_add]
  refine h.cell j u ?_
  unfold hcells
  have hlt := (List.getElem?_eq_some_iff.1 hj).1
  rw [List.append_assoc, List.getElem?_append_left hlt]
  exact hj

theorem hcells_loadS {w : World} {T : TypeId} {H : Nat} {ks : List W32} {s : St} {lv : Value} {n : Nat} (h : CB w T H (hcells ks s lv n)) (hk : ks.length = 64) : ∀ j u, (wds s.l)[j]? = some u → w.cell? ((⟨H, 64, none⟩ : Addr).add j) = some u := by
  intro j u hj
  rw [add_at]
  refine h.cell (64 + j) u ?_
  have hlt := (List.getElem?_eq_some_iff.1 hj).1
  rw [hcells_s ks hk s lv n j (by simpa [St.l] using hlt)]
  exact hj

def leftLen (H : Nat) (w : World) : Nat := match w.cell? ⟨H, 72, none⟩ with
  | some (.slice _ n _) => n
  | _ => 0

theorem leftLen_of {H : Nat} {w : World} {a : Option Addr} {n c : Nat} (h : w.cell? ⟨H, 72, none⟩ = some (.slice a n c)) : leftLen H w = n := by
  unfold leftLen
  rw [h]

/-- What a region may count on: the constants, and what is left. -/
def HS (T : TypeId) (ks : List W32) (lv : Value) (n H : Nat) (w : World) : Prop := ∃ s : St, CB w T H (hcells ks s lv n)

/-- The world but for the hasher's block and new ones. -/
structure Fh (H base : Nat) (w w' : World) : Prop where
  os : w'.os = w.os
  tape : w'.tape = w.tape
  output : w'.output = w.output
  size : w.heap.size ≤ w'.heap.size
  block : ∀ k, k < base → k ≠ H → w'.heap[k]? = w.heap[k]?

theorem Fh.refl (H base : Nat) (w : World) : Fh H base w w := ⟨rfl, rfl, rfl, Nat.le_refl _, fun _ _ _ => rfl⟩
theorem Fh.trans {H base : Nat} {u v w : World} (h : Fh H base u v) (g : Fh H base v w) : Fh H base u w :=
  ⟨g.os.trans h.os, g.tape.trans h.tape, g.output.trans h.output, Nat.le_trans h.size g.size, fun k hk hne => (g.block k hk hne).trans (h.block k hk hne)⟩
theorem Fh.below {H base : Nat} {v w : World} (g : Below base v w) : Fh H base v w :=
  ⟨g.os, g.tape, g.output, g.size, fun k hk _ => g.block k hk⟩
theorem Fh.set {H base : Nat} (w : World) (o : Nat) (v : Value) : Fh H base w (w.setCell ⟨H, o, none⟩ v) :=
  have b : Below H w (w.setCell ⟨H, o, none⟩ v) := (Below.refl H w).setCell (Nat.le_refl _) v
  ⟨b.os, b.tape, b.output, b.size, fun k hk hne => heap_setCell_other _ _ _ _ hne⟩
theorem Fh.drew {H base : Nat} {u w : World} (h : Fh H base u w) : Fh H base u w.drew := ⟨h.os, h.tape, h.output, h.size, h.block⟩

theorem Rd.setCellE {w : World} {v : Value} {n : Nat} {l : List UInt8} (h : Rd w 1 v n (bvs l)) {a : Addr} (ha : l ≠ [] → v.ownBlock ≠ some a.block) (u : Value) : Rd (w.setCell a u) 1 v n (bvs l) := by
  by_cases hl : l = []
  · subst hl
    refine ⟨h.1, ?_⟩
    rcases h.2 with h2 | ⟨ad, c, hv, h3, h4, _⟩
    · exact .inl h2
    · exact .inr ⟨ad, c, hv, h3, h4, fun j x hx => by simp [bvs] at hx⟩
  · exact h.setCell (ha hl) u

set_option maxRecDepth 100000 in
set_option maxHeartbeats 1600000 in
theorem add_any (w : World) (H base : Nat) (hH : H < base) (hbase : base ≤ w.heap.size) (m : List UInt8) (lv : Value) (hc : CB w 131 H (hcells KS (pressN (m.length / 64) S0 m) lv m.length)) (hv : Vw w base lv (m.drop (64 * (m.length / 64))))
    (b : Value) (l : List UInt8) (hr : Rd w 1 b l.length (bvs l)) (hbH : l ≠ [] → b.ownBlock ≠ some H) (hlen : m.length + l.length ≤ 1000000000) :
    Calls Try.prog 92 #[.pointer (some ⟨H, 0, none⟩), b] w fun e w' => e = .returned (.tuple #[]) ∧
      (∃ lv', CB w' 131 H (hcells KS (pressN ((m ++ l).length / 64) S0 (m ++ l)) lv' (m ++ l).length) ∧ Vw w' base lv' ((m ++ l).drop (64 * ((m ++ l).length / 64)))) ∧ Fh H base w w' := by
  obtain ⟨i0, hi, hz0, hz1, hz2⟩ := info_parts infoU8
  obtain ⟨ks, hks⟩ : ∃ k, k = KS := ⟨_, rfl⟩
  have hkl : ks.length = 64 := by rw [hks]; rfl
  rw [← hks] at hc ⊢
  have HKS := Lib.hid hks
  clear hks
  obtain ⟨q, hq⟩ : ∃ q, q = m.length / 64 := ⟨_, rfl⟩
  obtain ⟨n, hn⟩ : ∃ n, n = m.length := ⟨_, rfl⟩
  obtain ⟨k, hk⟩ : ∃ k, k = l.length := ⟨_, rfl⟩
  obtain ⟨s, hs⟩ : ∃ s, s = pressN (m.length / 64) S0 m := ⟨_, rfl⟩
  obtain ⟨b0, b1, rfl⟩ := hr.slice
  obtain ⟨c0, c1, rfl⟩ := hv.slice
  obtain ⟨D, hD⟩ : ∃ D, D = m.drop (64 * (m.length / 64)) := ⟨_, rfl⟩
  rw [← hD] at hv hc
  obtain ⟨r, hr0⟩ : ∃ r, r = D.length := ⟨_, rfl⟩
  rw [← hr0] at hv hc
  rw [← hk] at hr hlen hbH ⊢
  rw [← hs, ← hn] at hc
  have fn := hc.cell 73 _ (hcells_n ks hkl s _ n)
  have ffn := hc.free 73
  have fl := hc.cell 72 _ (hcells_l ks hkl s _ n)
  have ffl := hc.free 72
  obtain ⟨N1, hN1⟩ : ∃ N1, N1 = n + k := ⟨_, rfl⟩
  have gk : IntKind.u64.wrap (k : Int) = (k : Int) := by rw [IntKind.wrap_u64]; omega
  have gN : IntKind.u64.wrap ((n : Int) + (k : Int)) = (N1 : Int) := by rw [IntKind.wrap_u64]; omega
  have HN1 := Lib.hid hN1
  have HLEN := Lib.hid hlen
  have HC0 := Lib.hid hc
  have HR := Lib.hid hr
  have HV := Lib.hid hv
  have HBH := Lib.hid hbH
  have EQ := Lib.hid (And.intro hq (And.intro hn (And.intro hk hs)))
  have EQ2 := Lib.hid (And.intro hD hr0)
  clear hc hr hv hbH hq hn hk hs hN1 hlen hD hr0
  go_enter Try.func92, Try.ntmps92
  go_wp2_with (at_builtin; apply Stop.mk)
  refine Stop.go ?_
  have ho1 : Only H w (w.setCell ⟨H, 73, none⟩ (.int .u64 (N1 : Int))) := Only.setCell _ _ _ _
  have hc1 : CB (w.setCell ⟨H, 73, none⟩ (.int .u64 (N1 : Int))) 131 H (hcells ks s (.slice c0 r c1) N1) := by
    have h1 := HC0.out.set 73 (.int .u64 (N1 : Int))
    rw [hcells_setN ks hkl] at h1
    exact h1
  have hv1 := HV.out.only ho1 hH
  have hr1 := HR.out.setCellE (a := ⟨H, 73, none⟩) HBH.out (.int .u64 (N1 : Int))
  have hs1 : base ≤ (w.setCell ⟨H, 73, none⟩ (.int .u64 (N1 : Int))).heap.size := by rw [ho1.size]; exact hbase
  have hw1 : Fh H base w (w.setCell ⟨H, 73, none⟩ (.int .u64 (N1 : Int))) := Fh.set _ _ _
  obtain ⟨w1, hw1e⟩ : ∃ v, v = w.setCell ⟨H, 73, none⟩ (.int .u64 (N1 : Int)) := ⟨_, rfl⟩
  rw [← hw1e] at hc1 hv1 hr1 hs1 hw1 ⊢
  clear hw1e ho1 fn ffn fl ffl
  rw [EQ.out.2.2.1] at hr1
  refine wpList_append_vw _ rfl (.tmp 18) (.tmp 19) 42 rfl base 5 i0 Try.underlying42 hi hz0 hz1 hz2 (.slice c0 r c1) D rfl hv1 (.slice b0 k b1) l rfl (by rw [EQ.out.2.2.1]; exact hr1) ?_ hs1 ?_
  · have h1 := EQ2.out.1
    have h2 := HLEN.out
    have h3 := EQ.out.2.2.1
    rw [h1]; simp; omega
  intro lv2 w2 hv2 hb2
  obtain ⟨M, hM⟩ : ∃ M, M = m ++ l := ⟨_, rfl⟩
  have hDM : D ++ l = M.drop (64 * q) := by
    rw [hM, List.drop_append_of_le_length (by rw [EQ.out.1]; omega), EQ2.out.1, ← EQ.out.1]
  have hMl : M.length = N1 := by rw [hM, HN1.out, List.length_append, EQ.out.2.1, EQ.out.2.2.1]
  have hsM : s = pressN q S0 M := by rw [hM, EQ.out.2.2.2, EQ.out.1, pressN_append _ _ _ _ (by omega)]
  have hq64 : 64 * q ≤ N1 := by rw [HN1.out, EQ.out.1, EQ.out.2.1]; omega
  rw [hDM] at hv2
  obtain ⟨d0, d1, hlv2⟩ := hv2.slice
  obtain ⟨R2, hR2⟩ : ∃ R2, R2 = (M.drop (64 * q)).length := ⟨_, rfl⟩
  rw [← hR2] at hlv2
  subst hlv2
  have HR2 := Lib.hid hR2; clear hR2
  have hc2 := hc1.below hb2 hH
  have hw2 : Fh H base w w2 := hw1.trans (Fh.below hb2)
  have fl2 := hc2.cell 72 _ (hcells_l ks hkl s _ N1)
  have ff2 := hc2.free 72
  have ho3 : Only H w2 (w2.setCell ⟨H, 72, none⟩ (.slice d0 R2 d1)) := Only.setCell _ _ _ _
  have hc3 : CB (w2.setCell ⟨H, 72, none⟩ (.slice d0 R2 d1)) 131 H (hcells ks (pressN q S0 M) (.slice d0 R2 d1) N1) := by
    have h1 := hc2.set 72 (.slice d0 R2 d1)
    rw [hcells_setL ks hkl, hsM] at h1
    exact h1
  have hv3 := hv2.only ho3 hH
  have hw3 : Fh H base w (w2.setCell ⟨H, 72, none⟩ (.slice d0 R2 d1)) := hw2.trans (Fh.set _ _ _)
  have hs3 : base ≤ (w2.setCell ⟨H, 72, none⟩ (.slice d0 R2 d1)).heap.size := by rw [ho3.size]; exact Nat.le_trans hs1 hb2.size
  have HM := Lib.hid hM
  have HMl := Lib.hid hMl
  have HC3 := Lib.hid hc3
  have HV3 := Lib.hid hv3
  have HW3 := Lib.hid hw3
  have HS3 := Lib.hid hs3
  have HQ := Lib.hid hq64
  clear hM hDM hMl hsM hq64 hv2 hc2 hw2 ho3 hc3 hv3 hw3 hs3 hc1 hv1 hr1 hs1 hw1 hb2
  go_wp2
  go_loopw [23] (fun v23 wr => ∃ (j : Nat) (lv : Value), 64 * j ≤ N1 ∧ CB wr 131 H (hcells ks (pressN j S0 M) lv N1) ∧ Vw wr base lv (M.drop (64 * j)) ∧ Fh H base w wr)
    (fun _ wr => leftLen H wr)
  case atStart => exact ⟨q, _, HQ.out, HC3.out, HV3.out, HW3.out⟩
  case round =>
    obtain ⟨j, lv, hj, h1, h2, h3⟩ := hrel
    obtain ⟨a0, a1, rfl⟩ := h2.slice
    obtain ⟨R, hR⟩ : ∃ R, R = (M.drop (64 * j)).length := ⟨_, rfl⟩
    have hRN : R = N1 - 64 * j := by rw [hR, List.length_drop, HMl.out]
    obtain ⟨st, hst⟩ : ∃ st, st = pressN j S0 M := ⟨_, rfl⟩
    obtain ⟨D3, hD3⟩ : ∃ D3, D3 = M.drop (64 * j) := ⟨_, rfl⟩
    rw [← hD3] at h2 hR h1
    rw [← hR, ← hst] at h1
    have fl := h1.cell 72 _ (hcells_l ks hkl st _ N1)
    have ffl := h1.free 72
    have H1 := Lib.hid h1
    have H2 := Lib.hid h2
    have H3 := Lib.hid h3
    have HR3 := Lib.hid (And.intro hR (And.intro hst (And.intro hD3 (And.intro hRN hj))))
    clear h1 h2 h3 hst hD3 hRN hj HC3 HV3 HW3 HS3 HQ
    by_cases hlt : 64 ≤ R
    · rcases H2.out with ⟨_, hn0⟩ | ⟨g, off, c, he, hbg, hRc, hcm, _, _⟩
      · rw [hn0] at hR; simp at hR; omega
      simp only [Value.slice.injEq, true_and] at he
      obtain ⟨rfl, rfl⟩ := he
      have hcap : (64 : Int) ≤ (a1 : Int) := by omega
      have HRR := Lib.hid hR
      have HRC := Lib.hid hRc
      have HCM := Lib.hid hcm
      clear hR hRc hcm
      have hlti : (64 : Int) ≤ (R : Int) := by omega
      have hS : HS 131 ks (.slice (some ⟨g, off, none⟩) R a1) N1 H wr.drew := ⟨st, H1.out⟩
      go_wp2_with fail
      refine pl_start 18 rfl (HS 131 ks (.slice (some ⟨g, off, none⟩) R a1) N1 H) (by kernel_rfl) ?_
      refine pl_take (i := 0) 29 rfl rfl rfl (by kernel_rfl) (by kernel_rfl) (by kernel_rfl) (by simp [Act.put]) hS ?_
      apply Exists.intro
      refine And.intro (fun w' hS' => ?_) ?_
      · clear hS'
        go_wp2
        exact ⟨trivial, rfl⟩
      refine pl_take (i := 1) 30 rfl rfl rfl (by kernel_rfl) (by kernel_rfl) (by kernel_rfl) (by simp [Act.put]) hS ?_
      apply Exists.intro
      refine And.intro (fun w' hS' => ?_) ?_
      · clear hS'
        go_wp2
        exact ⟨trivial, rfl⟩
      refine pl_take (i := 2) 31 rfl rfl rfl (by kernel_rfl) (by kernel_rfl) (by kernel_rfl) (by simp [Act.put]) hS ?_
      apply Exists.intro
      refine And.intro (fun w' hS' => ?_) ?_
      · clear hS'
        go_wp2
        exact ⟨trivial, rfl⟩
      refine pl_take (i := 3) 32 rfl rfl rfl (by kernel_rfl) (by kernel_rfl) (by kernel_rfl) (by simp [Act.put]) hS ?_
      apply Exists.intro
      refine And.intro (fun w' hS' => ?_) ?_
      · clear hS'
        go_wp2
        exact ⟨trivial, rfl⟩
      refine pl_take (i := 4) 33 rfl rfl rfl (by kernel_rfl) (by kernel_rfl) (by kernel_rfl) (by simp [Act.put]) hS ?_
      apply Exists.intro
      refine And.intro (fun w' hS' => ?_) ?_
      · obtain ⟨st', hst'⟩ := hS'
        refine wpList_load_agg rfl 128 (.tmp 32) rfl ⟨H, 0, none⟩ rfl (wds ks) _ (hcells_loadK hst' hkl) Try.underlying128 rfl (by rw [wds_length, hkl]; exact infoW64) ?_
        go_wp2
        exact ⟨trivial, rfl⟩
      refine pl_take (i := 5) 34 rfl rfl rfl (by kernel_rfl) (by kernel_rfl) (by kernel_rfl) (by simp [Act.put]) hS ?_
      apply Exists.intro
      refine And.intro (fun w' hS' => ?_) ?_
      · clear hS'
        go_wp2
        exact ⟨trivial, rfl⟩
      refine pl_take (i := 6) 35 rfl rfl rfl (by kernel_rfl) (by kernel_rfl) (by kernel_rfl) (by simp [Act.put]) hS ?_
      apply Exists.intro
      refine And.intro (fun w' hS' => ?_) ?_
      · clear hS'
        go_wp2
        exact ⟨trivial, rfl⟩
      refine pl_take (i := 7) 36 rfl rfl rfl (by kernel_rfl) (by kernel_rfl) (by kernel_rfl) (by simp [Act.put]) hS ?_
      apply Exists.intro
      refine And.intro (fun w' hS' => ?_) ?_
      · clear hS'
        go_wp2
        exact ⟨trivial, rfl⟩
      refine pl_take (i := 9) 38 rfl rfl rfl (by kernel_rfl) (by kernel_rfl) (by kernel_rfl) (by simp [Act.put]) hS ?_
      apply Exists.intro
      refine And.intro (fun w' hS' => ?_) ?_
      · clear hS'
        go_wp2
        exact ⟨trivial, rfl⟩
      refine pl_take (i := 10) 39 rfl rfl rfl (by kernel_rfl) (by kernel_rfl) (by kernel_rfl) (by simp [Act.put]) hS ?_
      apply Exists.intro
      refine And.intro (fun w' hS' => ?_) ?_
      · clear hS'
        go_wp2
        exact ⟨trivial, rfl⟩
      refine pl_take (i := 11) 40 rfl rfl rfl (by kernel_rfl) (by kernel_rfl) (by kernel_rfl) (by simp [Act.put]) hS ?_
      apply Exists.intro
      refine And.intro (fun w' hS' => ?_) ?_
      · clear hS'
        go_wp2
        exact ⟨trivial, rfl⟩
      refine pl_take (i := 12) 41 rfl rfl rfl (by kernel_rfl) (by kernel_rfl) (by kernel_rfl) (by simp [Act.put]) hS ?_
      apply Exists.intro
      refine And.intro (fun w' hS' => ?_) ?_
      · obtain ⟨st', hst'⟩ := hS'
        have fl' := hst'.cell 72 _ (hcells_l ks hkl st' _ N1)
        clear hst'
        go_wp2
        exact ⟨trivial, rfl⟩
      refine pl_take (i := 13) 42 rfl rfl rfl (by kernel_rfl) (by kernel_rfl) (by kernel_rfl) (by simp [Act.put]) hS ?_
      apply Exists.intro
      refine And.intro (fun w' hS' => ?_) ?_
      · clear hS'
        go_wp2
        exact ⟨trivial, rfl⟩
      refine pl_heavy (i := 8) rfl (by kernel_rfl) ?_
      refine wpList_load_agg rfl 99 (.tmp 36) rfl ⟨H, 64, none⟩ rfl (wds st.l) _ (hcells_loadS H1.out hkl) Try.underlying99 rfl (by rw [wds_length]; exact infoW8) ?_
      go_wp2
      refine And.intro hS ?_
      have hl64 : (D3.take 64).length = 64 := by rw [List.length_take]; have := HRR.out; omega
      have hr64 : Rd wr.drew 1 (.slice (some ⟨g, off, none⟩) 64 a1) 64 (bvs (D3.take 64)) := by
        have h1 := H2.out.rd
        rw [← HRR.out] at h1
        have h2 := Rd.take h1 64 a1 (by omega) (by omega) (by unfold maxLen; exact HCM.out)
        exact h2
      have HR64 := Lib.hid hr64
      have HL64 := Lib.hid hl64
      clear hr64 hl64
      refine pl_heavy (i := 14) rfl (by kernel_rfl) ?_
      go_wp2_with fail
      refine (press_any wr.drew ks hkl st _ (D3.take 64) HL64.out HR64.out).mono ?_
      rintro e w4 ⟨rfl, hb4⟩
      have hb4' : Below wr.heap.size wr w4 := (Below.refl _ wr).drew.trans hb4
      have hsz : base ≤ wr.heap.size := Nat.le_trans hbase H3.out.size
      have h14 := H1.out.fresh hb4'
      have h24 := H2.out.fresh hb4'
      have h34 : Fh H base w w4 := H3.out.trans (Fh.below (hb4'.mono hsz))
      obtain ⟨st', hst'⟩ : ∃ s', s' = pressS ks st (D3.take 64) := ⟨_, rfl⟩
      rw [← hst']
      have HS' := Lib.hid hst'
      have H14 := Lib.hid h14
      have H24 := Lib.hid h24
      have H34 := Lib.hid h34
      clear hb4 hb4' h14 h24 h34 hst' hS
      have hS : HS 131 ks (.slice (some ⟨g, off, none⟩) R a1) N1 H w4 := ⟨st, H14.out⟩
      go_wp2
      refine And.intro hS ?_
      refine pl_heavy (i := 15) rfl (by kernel_rfl) ?_
      go_wp2
      refine And.intro hS ?_
      refine pl_heavy (i := 16) rfl (by kernel_rfl) ?_
      go_wp2
      refine And.intro hS ?_
      refine pl_heavy (i := 17) rfl (by kernel_rfl) ?_
      refine wpList_store_agg rfl 99 (.tmp 45) (.tmp 43) rfl H 64 131 rfl _ (wds st'.l) rfl H14.out (by simp [hcells_length ks hkl, St.l]) (wds_one _) (by rw [wds_length]; exact infoW8) ?_
      obtain ⟨w5, hw5⟩ : ∃ v, v = w4.setRow H ((hcells ks st (.slice (some ⟨g, off, none⟩) R a1) N1).toArray.toList.take 64 ++ wds st'.l ++ (hcells ks st (.slice (some ⟨g, off, none⟩) R a1) N1).toArray.toList.drop (64 + (wds st'.l).length)).toArray := ⟨_, rfl⟩
      rw [← hw5]
      have ho5 : Only H w4 w5 := by rw [hw5]; exact ⟨rfl, rfl, rfl, by simp, fun k hk => setRow_other _ _ _ _ hk⟩
      have hc5 : CB w5 131 H (hcells ks st' (.slice (some ⟨g, off, none⟩) R a1) N1) := by
        have h9 : (hcells ks st (.slice (some ⟨g, off, none⟩) R a1) N1).toArray.toList = hcells ks st (.slice (some ⟨g, off, none⟩) R a1) N1 := rfl
        rw [h9, hcells_setS ks hkl] at hw5
        unfold CB
        rw [hw5, setRow_heap _ _ _ _ _ _ H14.out]
      have hv5 := H24.out.only ho5 hH
      have h35 : Fh H base w w5 := H34.out.trans ⟨ho5.os, ho5.tape, ho5.output, by rw [ho5.size]; exact Nat.le_refl _, fun k _ hk => ho5.block k hk⟩
      have H15 := Lib.hid hc5
      have H25 := Lib.hid hv5
      have H35 := Lib.hid h35
      have hS5 : HS 131 ks (.slice (some ⟨g, off, none⟩) R a1) N1 H w5 := ⟨st', hc5⟩
      clear hw5 ho5 hc5 hv5 h35 H14 H24 H34 hS
      go_wp2
      refine And.intro hS5 ?_
      refine pl_done (by kernel_rfl) ?_
      have fl5 := H15.out.cell 72 _ (hcells_l ks hkl st' _ N1)
      have ffl5 := H15.out.free 72
      go_wp2
      go_roundw
      case rel =>
        have hjN : 64 * (j + 1) ≤ N1 := by have := HR3.out.2.2.2.1; have := HR3.out.2.2.2.2; omega
        have hdr : M.drop (64 * (j + 1)) = D3.drop 64 := by rw [HR3.out.2.2.1, List.drop_drop]; rfl
        have hst : st' = pressN (j + 1) S0 M := by
          rw [HS'.out, pressN_snoc, HR3.out.2.1, HR3.out.2.2.1, HKS.out]
        have hlv : Vw w5 base (.slice (if a1 = 64 then some ⟨g, off, none⟩ else some ⟨g, off + 64, none⟩) (R - 64) (a1 - 64)) (D3.drop 64) := by
          have h1 := H25.out
          rw [← HRR.out] at h1
          split
          · rename_i h64
            have hR64 : R = 64 := by have := HRC.out; have := HRR.out; omega
            have hd0 : D3.drop 64 = [] := List.drop_eq_nil_of_le (by have := HRR.out; omega)
            rw [hd0, hR64, h64]
            exact .inr ⟨g, off, 0, rfl, hbg, by simp, by unfold maxLen; omega, fun j x hx => by simp at hx, fun j hj => by omega⟩
          · have h3 := h1
            rw [HRR.out] at h3
            have h2 := Vw.drop h3 64 (by rw [← HRR.out]; exact hlt)
            rw [← HRR.out] at h2
            exact h2
        have hc6 := H15.out.set 72 (.slice (if a1 = 64 then some ⟨g, off, none⟩ else some ⟨g, off + 64, none⟩) (R - 64) (a1 - 64))
        rw [hcells_setL ks hkl, hst] at hc6
        refine ⟨j + 1, _, hjN, hc6, ?_, H35.out.trans (Fh.set _ _ _)⟩
        rw [hdr]
        exact hlv.only (Only.setCell _ _ _ _) hH
      case measure =>
        have e1 : leftLen H wr = R := leftLen_of fl
        have hcx := H15.out.set 72 (.slice (if a1 = 64 then some ⟨g, off, none⟩ else some ⟨g, off + 64, none⟩) (R - 64) (a1 - 64))
        rw [hcells_setL ks hkl] at hcx
        have e2 := leftLen_of (hcx.cell 72 _ (hcells_l ks hkl _ _ _))
        rw [e1, e2]
        omega
    · have HRR := Lib.hid hR
      clear hR
      go_wp2
      go_end0
      refine ⟨rfl, ?_, H3.out⟩
      have hmn : (m ++ l).length = N1 := by rw [← HM.out, HMl.out]
      have hjj : N1 / 64 = j := by have := HR3.out.2.2.2.1; have := HR3.out.2.2.2.2; omega
      rw [hmn, hjj, ← HM.out]
      have h1 := H1.out
      have h2 := H2.out
      rw [HR3.out.2.1] at h1
      rw [HR3.out.2.2.1] at h2
      refine ⟨_, h1, ?_⟩
      rw [HR3.out.1, HR3.out.2.2.1]
      exact h2

/-- The hasher at block H has seen the bytes m. -/
def Hd (w : World) (H base : Nat) (m : List UInt8) : Prop :=
  ∃ lv, CB w 131 H (hcells KS (pressN (m.length / 64) S0 m) lv m.length) ∧ Vw w base lv (m.drop (64 * (m.length / 64)))

theorem KS_length : KS.length = 64 := rfl

theorem Hd.n {w : World} {H base : Nat} {m : List UInt8} (h : Hd w H base m) : w.cell? ⟨H, 73, none⟩ = some (.int .u64 (m.length : Int)) := by
  obtain ⟨lv, h1, _⟩ := h
  exact h1.cell 73 _ (hcells_n KS KS_length _ _ _)

theorem Hd.load {w : World} {H base : Nat} {m : List UInt8} (h : Hd w H base m) : ∀ j u, (wds (pressN (m.length / 64) S0 m).l)[j]? = some u → w.cell? ((⟨H, 64, none⟩ : Addr).add j) = some u := by
  obtain ⟨lv, h1, _⟩ := h
  exact hcells_loadS h1 KS_length

theorem Hd.fresh {w w' : World} {H base : Nat} {m : List UInt8} (h : Hd w H base m) (hb : Below w.heap.size w w') : Hd w' H base m := by
  obtain ⟨lv, h1, h2⟩ := h
  exact ⟨lv, h1.fresh hb, h2.fresh hb⟩

theorem Hd.only {w w' : World} {H base g : Nat} {m : List UInt8} (h : Hd w H base m) (ho : Only g w w') (hne : H ≠ g) (hg : g < base ∨ w.heap.size ≤ g) : Hd w' H base m := by
  obtain ⟨lv, h1, h2⟩ := h
  rcases hg with hg | hg
  · exact ⟨lv, h1.only ho hne, h2.only ho hg⟩
  · have hb : Below w.heap.size w w' := ⟨ho.os, ho.tape, ho.output, by rw [ho.size]; exact Nat.le_refl _, fun k hk => ho.block k (by omega)⟩
    exact ⟨lv, h1.fresh hb, h2.fresh hb⟩

theorem hadd_any (w : World) (H base : Nat) (hH : H < base) (hbase : base ≤ w.heap.size) (m : List UInt8) (hd : Hd w H base m)
    (b : Value) (l : List UInt8) (hr : Rd w 1 b l.length (bvs l)) (hbH : l ≠ [] → b.ownBlock ≠ some H) (hlen : m.length + l.length ≤ 1000000000) :
    Calls Try.prog 92 #[.pointer (some ⟨H, 0, none⟩), b] w fun e w' => e = .returned (.tuple #[]) ∧ Hd w' H base (m ++ l) ∧ Fh H base w w' := by
  obtain ⟨lv, h1, h2⟩ := hd
  exact add_any w H base hH hbase m lv h1 h2 b l hr hbH hlen
end Go.Proofs.Ytkbahhnjoidhcaa

/- The hash of parts: the walk. -/
namespace Go.Proofs.Ytkbahhnjoidhcaa
set_option linter.unusedVariables false
set_option linter.unusedSimpArgs false
open Go.RowKit Go.Lib

theorem run_isAgg_u32 (w : World) : (isAgg 39).run Try.prog w = .ok false w := by
  unfold isAgg
  rw [Sem.run_bind, run_underlying Try.underlying39 w]
  rfl

theorem infoW : (Try.prog.info? 39).map (·.size) = some 1 := by kernel_rfl

theorem run_index_word (w : World) (cs : List Value) (q : Nat) (u : Value) (hq : q < 8) (hu : cs[q]? = some u) :
    (Instr.index 99 (.agg cs.toArray) (.int .i64 (q : Int))).run Try.prog w = .ok u w := by
  have h1 : (0 : Int) ≤ (q : Int) ∧ (q : Int) < 8 := by omega
  have h2 := run_size_of infoW w
  simp [Instr.index, run_underlying Try.underlying99, asIntOf, h1, h2, part, Sem.run_bind, run_isAgg_u32, hu]
  omega

theorem put4 (A : List UInt8) (z : Nat) (a b c d : UInt8) : ((((A ++ List.replicate (z + 4) 0).set A.length a).set (A.length + 1) b).set (A.length + 2) c).set (A.length + 3) d = A ++ [a, b, c, d] ++ List.replicate z 0 := by
  rw [List.set_append_right _ _ (Nat.le_refl _), List.set_append_right _ _ (by omega), List.set_append_right _ _ (by omega), List.set_append_right _ _ (by omega)]
  simp [List.replicate_succ, List.append_assoc]

theorem outB_take (l : List W32) (q : Nat) (h : q < l.length) : outB (l.take (q + 1)) = outB (l.take q) ++ wordB (l.getD q 0) := by
  unfold outB
  rw [List.take_add_one, List.getElem?_eq_getElem h, List.flatMap_append]
  simp [List.getD_eq_getElem?_getD, h]

/-- A slice of slices of bytes. -/
def Pts (w : World) (v : Value) (L : List (List UInt8)) : Prop :=
  ∃ vs : List Value, Rd w 1 v L.length vs ∧ ∀ (i : Nat) (x : List UInt8), L[i]? = some x → ∃ u, vs[i]? = some u ∧ Rd w 1 u x.length (bvs x)

theorem Pts.fresh {w w' : World} {v : Value} {L : List (List UInt8)} (h : Pts w v L) (hb : Below w.heap.size w w') : Pts w' v L := by
  obtain ⟨vs, h1, h2⟩ := h
  exact ⟨vs, h1.fresh hb, fun i x hx => by
    obtain ⟨u, hu, hr⟩ := h2 i x hx
    exact ⟨u, hu, hr.fresh hb⟩⟩

theorem Pts.slice {w : World} {v : Value} {L : List (List UInt8)} (h : Pts w v L) : ∃ a c, v = .slice a L.length c := by
  obtain ⟨vs, h1, _⟩ := h
  exact h1.slice

/-- What is read stays where but the hasher's block and new ones turn. -/
theorem Rd.fh {w0 w w' : World} {v : Value} {n H base : Nat} {cs : List Value} (h : Rd w0 1 v n cs) (hb : Below w0.heap.size w0 w) (hf : Fh H base w w') (h1 : w0.heap.size ≤ H) (h2 : w0.heap.size ≤ base) : Rd w' 1 v n cs := by
  refine h.kept fun k hk _ => ?_
  rw [hf.block k (by omega) (by omega), hb.block k hk]

theorem flat_take (L : List (List UInt8)) (k : Nat) (h : k < L.length) : (L.take (k + 1)).flatten = (L.take k).flatten ++ L[k] := by
  rw [List.take_add_one, List.getElem?_eq_getElem h, List.flatten_append]
  simp

theorem flat_le (L : List (List UInt8)) (k : Nat) : (L.take k).flatten.length ≤ L.flatten.length := by
  have h : L.flatten = (L.take k).flatten ++ (L.drop k).flatten := by rw [← List.flatten_append, List.take_append_drop]
  rw [h]; simp

/-- The lowest i bytes, the highest of them first. -/
def tailB (v : Nat) : Nat → List UInt8
  | 0 => []
  | i + 1 => UInt8.ofNat (v / 2 ^ (8 * i)) :: tailB v i

@[simp] theorem tailB_length (v i : Nat) : (tailB v i).length = i := by induction i <;> simp [tailB, *]

theorem tailB_be8 (v : Nat) : tailB v 8 = be8 v 8 := rfl

def padL (P v i : Nat) : List UInt8 := 128 :: (List.replicate (P - 9) 0 ++ (List.replicate (8 - i) 0 ++ tailB v i))

theorem padL_length (P v i : Nat) (hP : 9 ≤ P) (hi : i ≤ 8) : (padL P v i).length = P := by
  simp [padL]; omega

theorem padL_set (P v i : Nat) (hP : 9 ≤ P) (hi : i < 8) : (padL P v i).set (P - 1 - i) (UInt8.ofNat (v / 2 ^ (8 * i))) = padL P v (i + 1) := by
  unfold padL
  obtain ⟨d, hd⟩ : ∃ d, P - 1 - i = d + 1 := ⟨P - 2 - i, by omega⟩
  rw [hd, List.set_cons_succ]
  congr 1
  rw [List.set_append_right _ _ (by simp; omega)]
  congr 1
  rw [show 8 - i = (8 - (i + 1)) + 1 by omega, List.replicate_succ', List.append_assoc]
  rw [List.set_append_right _ _ (by simp; omega)]
  congr 1
  rw [show d - (List.replicate (P - 9) (0 : UInt8)).length - (List.replicate (8 - (i + 1)) (0 : UInt8)).length = 0 by simp; omega]
  rfl

theorem padL_cell (P v i : Nat) (hP : 9 ≤ P) (hi : i < 8) : (padL P v i)[P - 1 - i]? = some 0 := by
  unfold padL
  obtain ⟨d, hd⟩ : ∃ d, P - 1 - i = d + 1 := ⟨P - 2 - i, by omega⟩
  rw [hd, List.getElem?_cons_succ, List.getElem?_append_right (by simp; omega), List.getElem?_append_left (by simp; omega)]
  rw [List.getElem?_replicate, if_pos (by simp; omega)]

set_option maxRecDepth 100000 in
set_option maxHeartbeats 1600000 in
theorem sum_any (w : World) (v : Value) (L : List (List UInt8)) (hp : Pts w v L) (hL : L.length ≤ 1000000) (hlen : L.flatten.length ≤ 100000000) :
    Calls Try.prog 66 #[v] w fun e w' => e = .returned (.agg (bvs (shaB L.flatten)).toArray) ∧ Below w.heap.size w w' := by
  obtain ⟨i0, hi, hi0, hi1, hi2⟩ := info_parts infoU8
  obtain ⟨a0, c0, rfl⟩ := hp.slice
  have HP := Lib.hid hp; clear hp
  have CK := Lib.hid (fun w0 => constants_any w0)
  have CS := Lib.hid (fun w0 => start_any w0)
  obtain ⟨K, hK⟩ : ∃ k, k = (wds KS).toArray := ⟨_, rfl⟩
  obtain ⟨S, hS⟩ : ∃ k, k = (wds S0.l).toArray := ⟨_, rfl⟩
  rw [← hK] at CK
  rw [← hS] at CS
  have HK := Lib.hid (And.intro hK hS)
  clear hK hS
  go_enter Try.func66, Try.ntmps66
  go_wp2_with fail
  obtain ⟨wa, ha, hak, hab, has⟩ := alloc_cb w 24 (bvs (List.replicate 32 0))
  change Calls _ _ _ (w.alloc (.cells (bvs (List.replicate 32 0)).toArray 24)) _
  rw [← ha]
  clear ha
  refine (CK.out wa).mono ?_
  rintro e w1 ⟨rfl, hb1⟩
  have hO1 := hak.fresh hb1
  have hB1 : Below w.heap.size w w1 := hab.trans (hb1.mono (by omega))
  have hz1 : w.heap.size + 1 ≤ w1.heap.size := by have := hb1.size; omega
  clear hak hab has hb1
  go_wp2_with fail
  refine (CS.out w1).mono ?_
  rintro e w2 ⟨rfl, hb2⟩
  have hO2 := hO1.fresh hb2
  have hB2 : Below w.heap.size w w2 := hB1.trans (hb2.mono (by omega))
  have hz2 : w.heap.size + 1 ≤ w2.heap.size := by have := hb2.size; omega
  clear hO1 hB1 hz1 hb2
  go_wp2_with (with_reducible refine stopAt 13 ?_)
  refine Stop.go ?_
  rw [HK.out.1, HK.out.2]
  refine wpList_build rfl _ _ rfl (.agg (hcells KS S0 (.slice none 0 0) 0).toArray) (by kernel_rfl) ?_
  rw [← HK.out.1, ← HK.out.2]
  obtain ⟨HH, hHH⟩ : ∃ h, h = hcells KS S0 (.slice none 0 0) 0 := ⟨_, rfl⟩
  rw [← hHH]
  have HHH := Lib.hid hHH
  clear hHH
  go_wp2
  obtain ⟨H, hH⟩ : ∃ H, H = w2.heap.size := ⟨_, rfl⟩
  obtain ⟨w3, hw3, h3k, h3b, h3z⟩ := alloc_cb w2 131 HH
  rw [← hw3]
  rw [← hH] at h3k h3b h3z hz2 ⊢
  have hHd : Hd w3 H (H + 1) [] := by
    rw [HHH.out] at h3k
    exact ⟨.slice none 0 0, h3k, Vw.nil _ _⟩
  have hO3 : BB w3 24 w.heap.size (List.replicate 32 0) := by
    have h1 := CB.below hO2 h3b (by omega)
    exact h1
  have hB3 : Below w.heap.size w w3 := hB2.trans (h3b.mono (by omega))
  obtain ⟨N, hN⟩ : ∃ N, N = w.heap.size := ⟨_, rfl⟩
  have HB3w := Lib.hid hB3
  rw [← hN] at hO3 hB3 hz2 ⊢
  have HHd := Lib.hid hHd
  have HO3 := Lib.hid hO3
  have HB3 := Lib.hid hB3
  have HZ3 := Lib.hid h3z
  have HN := Lib.hid hN
  clear hw3 h3k h3b h3z hHd hO3 hB3 hO2 hB2 hH hN HHH
  go_loopw [17] (fun v17 wr => ∃ k : Nat, k ≤ L.length ∧ v17 = .int .i64 (k : Int) ∧ Hd wr H (H + 1) (L.take k).flatten ∧ Fh H (H + 1) w3 wr)
    (fun v _ => L.length - (intOf v).toNat)
  case atStart => exact ⟨0, by omega, rfl, by simpa using HHd.out, Fh.refl _ _ _⟩
  case round =>
    clear HHd
    obtain ⟨k, hk, rfl, h1, h2⟩ := hrel
    have H1 := Lib.hid h1
    have H2 := Lib.hid h2
    clear h1 h2
    by_cases hlt : k < L.length
    · obtain ⟨vs, hr, hel⟩ := HP.out
      obtain ⟨u, hu, hru⟩ := hel k _ (List.getElem?_eq_getElem hlt)
      have hr' := Rd.fh hr HB3w.out H2.out (by have := HN.out; omega) (by have := HN.out; omega)
      have hru' := Rd.fh hru HB3w.out H2.out (by have := HN.out; omega) (by have := HN.out; omega)
      have huH : L[k] ≠ [] → u.ownBlock ≠ some H := by
        intro hne
        rcases hru.2 with ⟨_, h0⟩ | ⟨ad, c, rfl, _, _, hcell⟩
        · exact absurd (List.eq_nil_of_length_eq_zero h0) hne
        · have hpos : 0 < L[k].length := List.length_pos_iff.2 hne
          have hc0 := hcell 0 (bv (L[k][0]'hpos)) (by simp [bvs, hpos])
          have hbl := block_lt_of_cell hc0
          rw [Addr.add_block] at hbl
          simp only [Value.ownBlock, ne_eq, Option.some.injEq]
          intro e
          have := HN.out
          omega
      rcases hr'.2 with ⟨_, h0⟩ | ⟨ad, c, he, _, _, hcell⟩
      · omega
      simp only [Value.slice.injEq, true_and] at he
      obtain ⟨rfl, rfl⟩ := he
      obtain ⟨x, hx⟩ : ∃ x, x = L[k] := ⟨_, rfl⟩
      rw [← hx] at hru' huH hru
      obtain ⟨a1, c1, rfl⟩ := hru.slice
      have fk : wr.cell? (ad.add k) = some (.slice a1 x.length c1) := hcell k _ hu
      have bk : (k : Int) < (L.length : Int) := by omega
      have hle := flat_le L (k + 1)
      rw [flat_take L k hlt, ← hx] at hle
      have hb : (L.take k).flatten.length + x.length ≤ 1000000000 := by
        rw [List.length_append] at hle
        omega
      have CA := Lib.hid (fun w' (hs : H + 1 ≤ w'.heap.size) (hd : Hd w' H (H + 1) (L.take k).flatten) (hr : Rd w' 1 (.slice a1 x.length c1) x.length (bvs x)) => hadd_any w' H (H + 1) (by omega) hs _ hd _ x hr huH hb)
      have HRU := Lib.hid hru'
      have HX := Lib.hid hx
      clear hr hel hu hru hr' hru' huH hcell hle hb hx
      obtain ⟨xl, hxl⟩ : ∃ n, n = x.length := ⟨_, rfl⟩
      rw [← hxl] at fk
      have HXL := Lib.hid hxl
      clear hxl
      have hsz : H + 1 ≤ wr.heap.size := by have := H2.out.size; have := HZ3.out; omega
      go_wp2_with fail
      rw [HXL.out]
      refine (CA.out wr hsz H1.out HRU.out).mono ?_
      rintro e w4 ⟨rfl, hd4, hf4⟩
      have H14 : Hid (Hd w4 H (H + 1) (L.take (k + 1)).flatten) := by
        rw [flat_take L k hlt, ← HX.out]
        exact Lib.hid hd4
      have H24 := Lib.hid (H2.out.trans hf4)
      rw [← HXL.out]
      clear hd4 hf4
      go_wp2
      go_roundw
      case rel => exact ⟨k + 1, by omega, by go_num, H14.out, H24.out⟩
      case measure =>
        simp only [intOf]
        omega
    · rename World => wv
      have hkL : k = L.length := by omega
      have hd5 := H1.out
      rw [hkL, List.take_of_length_le (Nat.le_refl _)] at hd5
      obtain ⟨m, hm⟩ : ∃ m, m = L.flatten := ⟨_, rfl⟩
      rw [← hm] at hd5 hlen
      obtain ⟨n, hn⟩ : ∃ n, n = m.length := ⟨_, rfl⟩
      have fn := hd5.n
      rw [← hn] at fn hlen
      obtain ⟨P, hP⟩ : ∃ P, P = (119 - n % 64) % 64 + 9 := ⟨_, rfl⟩
      obtain ⟨B8, hB8⟩ : ∃ b, b = n * 8 := ⟨_, rfl⟩
      have g1 : IntKind.u64.wrap ((n : Int) * 8) = (B8 : Int) := by rw [IntKind.wrap_u64]; omega
      have HD5 := Lib.hid hd5
      have HM := Lib.hid hm
      have HNN := Lib.hid hn
      have HPP := Lib.hid hP
      have HB8 := Lib.hid hB8
      have HLN := Lib.hid hlen
      have HKL := Lib.hid hkL
      clear hd5 hm hn hP hB8 hlen hkL H1
      go_wp2_with (with_reducible refine stopAt 38 ?_)
      refine Stop.go ?_
      have hPe : ((119 - (n : Int)) % 64 + 9) = (P : Int) := by have := HPP.out; omega
      have hPl : P ≤ 72 := by have := HPP.out; omega
      have hP9 : 9 ≤ P := by have := HPP.out; omega
      refine wpList_make_full _ rfl _ _ 42 rfl wv.heap.size 5 i0 (.int .u8 0) 1 Try.underlying42 hi hi0 hi1 _ _ _ _ P rfl rfl hPe hPe (by rw [hi2]; omega) (by unfold maxLen; omega) (Nat.le_refl _) ?_
      intro w6 hown hgr
      have hb6 : BB w6 5 wv.heap.size (List.replicate P 0) := by
        refine BB.full (base := wv.heap.size) (n := P) ?_
        simpa [bvs, bv, Value.cells, toList_madeCells_one] using hown
      have hbl6 : Below wv.heap.size wv w6 := Below.grown (Below.refl _ wv) hgr (Nat.le_refl _) (by simp)
      obtain ⟨G, hG⟩ : ∃ G, G = wv.heap.size := ⟨_, rfl⟩
      have hGH : H + 1 ≤ G := by have := H2.out.size; have := HZ3.out; omega
      rw [← hG] at hb6 ⊢
      have hg6 : G < w6.heap.size := hb6.lt
      have hBG : Below G wv (w6.setCell ⟨G, 0, none⟩ (.int .u8 128)) := by rw [hG]; exact hbl6.setCell (Nat.le_refl _) _
      have fc0 := hb6.cell 0 0 (by rw [List.getElem?_replicate, if_pos (by omega)])
      have ff0 := hb6.free 0
      unfold bv at fc0
      have hb7 : BB (w6.setCell ⟨G, 0, none⟩ (.int .u8 128)) 5 G (padL P B8 0) := by
        have h1 := hb6.set 0 128
        have h2 : (List.replicate P (0 : UInt8)).set 0 128 = padL P B8 0 := by
          obtain ⟨d, rfl⟩ : ∃ d, P = d + 9 := ⟨P - 9, by omega⟩
          show 128 :: List.replicate (d + 8) 0 = 128 :: (List.replicate (d + 9 - 9) 0 ++ (List.replicate 8 0 ++ []))
          rw [List.append_nil, List.replicate_append_replicate]
          rfl
        rw [h2] at h1
        exact h1
      have HB7 := Lib.hid hb7
      have HBG := Lib.hid hBG
      have HG := Lib.hid hG
      have bP : (0 : Int) < (P : Int) := by omega
      clear hown hgr hb6 hb7 hG hbl6 hPe hBG
      go_wp2
      go_loopw [41] (fun v41 wr => ∃ i : Nat, i ≤ 8 ∧ v41 = .int .i64 (i : Int) ∧ BB wr 5 G (padL P B8 i) ∧ Below G wv wr)
        (fun v _ => 8 - (intOf v).toNat)
      case atStart => exact ⟨0, by omega, rfl, HB7.out, HBG.out⟩
      case round =>
        clear HB7 HBG fc0 ff0
        obtain ⟨i, hi8, rfl, h1, h2⟩ := hrel
        have K1 := Lib.hid h1
        have K2 := Lib.hid h2
        clear h1 h2
        by_cases hlt8 : i < 8
        · obtain ⟨X, hX⟩ : ∃ X, X = P - 1 - i := ⟨_, rfl⟩
          have fx := K1.out.cell X 0 (by rw [hX]; exact padL_cell P B8 i hP9 hlt8)
          have ffx := K1.out.free X
          unfold bv at fx
          obtain ⟨P1, hP1⟩ : ∃ v, v = P - 1 := ⟨_, rfl⟩
          obtain ⟨sh, hsh⟩ : ∃ v, v = 8 * i := ⟨_, rfl⟩
          have e1 : IntKind.i64.wrap ((P : Int) - 1) = (P1 : Int) := by rw [IntKind.wrap_i64]; omega
          have e2 : IntKind.i64.wrap ((P1 : Int) - (i : Int)) = (X : Int) := by rw [IntKind.wrap_i64]; omega
          have e3 : IntKind.i64.wrap (8 * (i : Int)) = (sh : Int) := by rw [IntKind.wrap_i64]; omega
          have bX : (X : Int) < (P : Int) := by omega
          have bi8 : (i : Int) < 8 := by omega
          have bsh : (0 : Int) ≤ (sh : Int) := by omega
          have EX := Lib.hid (And.intro hX hsh)
          clear hX hP1 hsh
          go_wp2
          go_roundw
          case rel =>
            obtain ⟨hX, hsh⟩ := EX.out
            refine ⟨i + 1, by omega, by go_num, ?_, K2.out.setCell (Nat.le_refl _) _⟩
            have h1 := K1.out.set X (UInt8.ofNat (B8 / 2 ^ (8 * i)))
            rw [hX, padL_set P B8 i hP9 hlt8, ← hX, bv_ofNat] at h1
            have h3 : ((B8 / 2 ^ (8 * i) : Nat) : Int) = (B8 : Int) / 2 ^ min sh 64 := by
              rw [show min sh 64 = 8 * i by omega]
              simp
            rw [h3] at h1
            exact h1
          case measure =>
            simp only [intOf]
            omega
        · have hi8' : i = 8 := by omega
          have hd8 := HD5.out.fresh (by rw [← HG.out]; exact K2.out)
          have hf8 := H2.out.trans (Fh.below (K2.out.mono (by omega)))
          have hrp : Rd wr 1 (.slice (some ⟨G, 0, none⟩) P P) P (bvs (padL P B8 i)) := by
            have h1 := BB.rd K1.out 0 P P (by rw [padL_length P B8 i hP9 hi8]; omega) (Nat.le_refl _) (by unfold maxLen; omega)
            rw [List.drop_zero, List.take_of_length_le (by rw [padL_length P B8 i hP9 hi8]; omega)] at h1
            exact h1
          have hpl := padL_length P B8 i hP9 hi8
          have hpp : padL P B8 i = padB n := by
            rw [hi8', HPP.out, HB8.out]
            unfold padL padB
            rw [tailB_be8]
            simp
          rw [hpp] at hrp hpl
          have hs8 : H + 1 ≤ wr.heap.size := by have := K1.out.lt; omega
          have CA := hadd_any wr H (H + 1) (by omega) hs8 m hd8 (.slice (some ⟨G, 0, none⟩) P P) (padB n) (by rw [hpl]; exact hrp) (fun _ => by simp [Value.ownBlock]; omega) (by rw [hpl, ← HNN.out]; have := HLN.out; omega)
          have HCA := Lib.hid CA
          have HF8 := Lib.hid hf8
          have HI8 := Lib.hid hi8'
          clear hd8 hf8 hrp hpl hpp CA hi8' K1 K2
          go_wp2_with fail
          refine HCA.out.mono ?_
          rintro e w9 ⟨rfl, hd9, hf9⟩
          obtain ⟨M, hM⟩ : ∃ M, M = m ++ padB n := ⟨_, rfl⟩
          rw [← hM] at hd9
          obtain ⟨st, hst⟩ : ∃ s, s = pressN (M.length / 64) S0 M := ⟨_, rfl⟩
          have hload := hd9.load
          rw [← hst] at hload
          have hout : BB w9 24 N (List.replicate 32 0) := by
            have h1 := HF8.out.trans hf9
            unfold BB
            rw [h1.block N (by omega) (by omega)]
            exact HO3.out
          have hbw : Below N w w9 := by
            have h1 := HF8.out.trans hf9
            exact HB3.out.trans ⟨h1.os, h1.tape, h1.output, h1.size, fun j hj => h1.block j (by omega) (by omega)⟩
          have hfin : shaB L.flatten = outB st.l := by
            unfold shaB
            rw [← HM.out, ← HNN.out, ← hM, hst]
          have HLD := Lib.hid hload
          have HOUT := Lib.hid hout
          have HBW := Lib.hid hbw
          have HFIN := Lib.hid hfin
          have hlt8' : (decide ((i : Int) < 8)) = false := by have := HI8.out; simp; omega
          clear hd9 hf9 hM hst hload hout hbw hfin HF8 HCA
          go_wp2_with (with_reducible refine stopAt 63 ?_)
          refine Stop.go ?_
          refine wpList_load_agg rfl 99 (.tmp 62) rfl ⟨H, 64, none⟩ rfl (wds st.l) _ HLD.out Try.underlying99 rfl (by rw [wds_length]; exact infoW8) ?_
          go_wp2
          try rw [hlt8']
          clear hlt8'
          go_loopw [64] (fun v64 wr => ∃ q : Nat, q ≤ 8 ∧ v64 = .int .i64 (q : Int) ∧ BB wr 24 N (outB (st.l.take q) ++ List.replicate (32 - 4 * q) 0) ∧ Below N w wr)
            (fun v _ => 8 - (intOf v).toNat)
          case atStart => exact ⟨0, by omega, rfl, HOUT.out, HBW.out⟩
          case round =>
            obtain ⟨q, hq8, rfl, h1, h2⟩ := hrel
            have J1 := Lib.hid h1
            have J2 := Lib.hid h2
            clear h1 h2 HOUT HBW
            by_cases hltq : q < 8
            · have bq : (q : Int) < 8 := by omega
              obtain ⟨x, hx⟩ : ∃ x, x = st.l.getD q 0 := ⟨_, rfl⟩
              obtain ⟨X, hX⟩ : ∃ n, n = x.toNat := ⟨_, rfl⟩
              have hxl : X < 4294967296 := by rw [hX]; exact x.isLt
              have hu : (wds st.l)[q]? = some (.int .u32 (X : Int)) := by
                rw [hX, hx]
                exact wds_get _ _ hltq
              have hidx := fun w' => run_index_word w' (wds st.l) q _ hltq hu
              obtain ⟨n0, e0⟩ : ∃ n, n = 4 * q := ⟨_, rfl⟩
              obtain ⟨n1, e1⟩ : ∃ n, n = n0 + 1 := ⟨_, rfl⟩
              obtain ⟨n2, e2⟩ : ∃ n, n = n0 + 2 := ⟨_, rfl⟩
              obtain ⟨n3, e3⟩ : ∃ n, n = n0 + 3 := ⟨_, rfl⟩
              have g0 : IntKind.i64.wrap (4 * (q : Int)) = (n0 : Int) := by rw [IntKind.wrap_i64]; omega
              have g1 : IntKind.i64.wrap ((n0 : Int) + 1) = (n1 : Int) := by rw [IntKind.wrap_i64]; omega
              have g2 : IntKind.i64.wrap ((n0 : Int) + 2) = (n2 : Int) := by rw [IntKind.wrap_i64]; omega
              have g3 : IntKind.i64.wrap ((n0 : Int) + 3) = (n3 : Int) := by rw [IntKind.wrap_i64]; omega
              have b0 : (n0 : Int) < 32 := by omega
              have b1 : (n1 : Int) < 32 := by omega
              have b2 : (n2 : Int) < 32 := by omega
              have b3 : (n3 : Int) < 32 := by omega
              have hzl : (outB (st.l.take q)).length = 4 * q := by rw [outB_length, List.length_take]; simp [St.l]; omega
              have hz : ∀ j, 4 * q ≤ j → j < 32 → (outB (st.l.take q) ++ List.replicate (32 - 4 * q) 0)[j]? = some 0 := by
                intro j hj1 hj2
                rw [List.getElem?_append_right (by omega), List.getElem?_replicate, if_pos (by omega)]
              have c0 := J1.out.cell n0 0 (hz n0 (by omega) (by omega))
              have c1 := J1.out.cell n1 0 (hz n1 (by omega) (by omega))
              have c2 := J1.out.cell n2 0 (hz n2 (by omega) (by omega))
              have c3 := J1.out.cell n3 0 (hz n3 (by omega) (by omega))
              have d0 := J1.out.free n0
              have d1 := J1.out.free n1
              have d2 := J1.out.free n2
              have d3 := J1.out.free n3
              unfold bv at c0 c1 c2 c3
              have ne01 : ¬ (n0 = n1) := by omega
              have ne02 : ¬ (n0 = n2) := by omega
              have ne03 : ¬ (n0 = n3) := by omega
              have ne12 : ¬ (n1 = n2) := by omega
              have ne13 : ¬ (n1 = n3) := by omega
              have ne23 : ¬ (n2 = n3) := by omega
              have EE := Lib.hid (And.intro e0 (And.intro e1 (And.intro e2 e3)))
              have EX := Lib.hid (And.intro hx hX)
              have HZL := Lib.hid hzl
              clear hx hX hu hz hzl e0 e1 e2 e3
              go_wp2
              go_roundw
              case rel =>
                obtain ⟨e0, e1, e2, e3⟩ := EE.out
                refine ⟨q + 1, by omega, by go_num, ?_, (((J2.out.setCell (Nat.le_refl _) _).setCell (Nat.le_refl _) _).setCell (Nat.le_refl _) _).setCell (Nat.le_refl _) _⟩
                have h1 := (((J1.out.set n0 (UInt8.ofNat (X / 16777216))).set n1 (UInt8.ofNat (X / 65536))).set n2 (UInt8.ofNat (X / 256))).set n3 (UInt8.ofNat X)
                rw [e3, e2, e1, e0, show 32 - 4 * q = (32 - 4 * (q + 1)) + 4 by omega, ← HZL.out, put4] at h1
                rw [outB_take st.l q (by simp [St.l]; omega), ← EX.out.1]
                simp only [bv_ofNat] at h1
                unfold wordB
                rw [← EX.out.2]
                rw [e3, e2, e1, e0, ← HZL.out]
                rw [show ((X / 16777216 : Nat) : Int) % 256 = (X : Int) / 16777216 by omega, show ((X / 65536 : Nat) : Int) % 256 = (X : Int) / 65536 % 256 by omega, show ((X / 256 : Nat) : Int) % 256 = (X : Int) / 256 % 256 by omega] at h1
                exact h1
              case measure =>
                simp only [intOf]
                omega
            · have hq8' : q = 8 := by omega
              have h1 : BB wr 24 N (outB st.l) := by
                have h2 := J1.out
                rw [hq8', List.take_of_length_le (by simp [St.l])] at h2
                simpa using h2
              obtain ⟨O, hO⟩ : ∃ o, o = outB st.l := ⟨_, rfl⟩
              have hOl : O.length = 32 := by rw [hO, outB_length]; rfl
              rw [← hO] at h1
              have hOf : O = shaB L.flatten := by rw [hO, HFIN.out]
              have HB9 := Lib.hid h1
              have HOL := Lib.hid hOl
              have HOF := Lib.hid hOf
              have hq8b : (decide ((q : Int) < 8)) = false := by simp; omega
              clear h1 hOl hOf hO hq8' hq8b J1
              go_wp2_with (with_reducible refine stopAt 95 ?_)
              refine Stop.go ?_
              refine wpList_load_agg rfl 24 (.tmp 2) rfl ⟨N, 0, none⟩ rfl (bvs O) _ (At.block HB9.out).load Try.underlying24 rfl (by rw [bvs_length, HOL.out]; exact infoHash) ?_
              go_wp2_with (with_reducible refine stopStore 24 ?_)
              refine Stop.go ?_
              refine wpList_store_var rfl 24 (.tmp 2) (.tmp 95) rfl N _ rfl _ (bvs O) rfl HB9.out (by simp [HOL.out]) (bvs_one _) (by rw [bvs_length, HOL.out]; exact infoHash) ?_
              intro wz hbz hoz
              have BZ := Below.only J2.out hoz (Nat.le_refl _)
              rw [HN.out] at BZ
              have HBZ := Lib.hid hbz
              have HBL := Lib.hid BZ
              clear hbz hoz BZ
              go_wp2
              exact bodyPost_ret (results_cell1 rfl _ _ N _ _ _ _ rfl HBZ.out Try.underlying24 rfl (by simp [HOL.out, infoHash])) rfl ⟨by rw [HOF.out], HBL.out⟩
end Go.Proofs.Ytkbahhnjoidhcaa

/- The chapter's hash of bytes: the walk. -/
namespace Go.Proofs.Ytkbahhnjoidhcaa
set_option linter.unusedVariables false
set_option linter.unusedSimpArgs false
open Go.RowKit Go.Lib

def sliceLen (v : Value) : Nat := match v with
  | .slice _ n _ => n
  | _ => 0

theorem rd_one8 (w : World) (x : UInt8) (t : TypeId) : Rd (w.alloc (.cells #[.int .u8 (x.toNat : Int)] t)) 1 (.slice (some ⟨w.heap.size, 0, none⟩) 1 1) 1 (bvs [x]) := rd_one w (bv x) t

theorem Rd.below' {w w' : World} {B size : Nat} {v : Value} {n : Nat} {cs : List Value} (h : Rd w size v n cs) (hb : Below B w w') (hB : B = w.heap.size) : Rd w' size v n cs := by
  subst hB
  exact h.fresh hb

theorem outB_get (l : List W32) (i : Nat) (h : i < 4 * l.length) : (outB l)[i]? = some (UInt8.ofNat ((l.getD (i / 4) 0).toNat / 2 ^ (24 - 8 * (i % 4)))) := by
  induction l generalizing i with
  | nil => simp at h
  | cons x l ih =>
    show (wordB x ++ outB l)[i]? = _
    rcases Nat.lt_or_ge i 4 with h4 | h4
    · rw [List.getElem?_append_left (by simp [wordB]; omega)]
      have : i = 0 ∨ i = 1 ∨ i = 2 ∨ i = 3 := by omega
      rcases this with rfl | rfl | rfl | rfl <;> simp [wordB]
    · rw [List.getElem?_append_right (by simp [wordB]; omega)]
      have hl : (wordB x).length = 4 := rfl
      rw [hl, ih (i - 4) (by simp at h; omega)]
      rw [show (i - 4) % 4 = i % 4 by omega]
      obtain ⟨d, hd⟩ : ∃ d, i / 4 = d + 1 := ⟨i / 4 - 1, by omega⟩
      rw [show (i - 4) / 4 = d by omega, hd]
      simp [List.getD_eq_getElem?_getD]

set_option maxRecDepth 100000 in
set_option maxHeartbeats 1600000 in
theorem rsum_any (w : World) (v : Value) (m : List UInt8) (hr : Rd w 1 v m.length (bvs m)) (hlen : m.length ≤ 100000000) :
    Calls Try.prog 32 #[v] w fun e w' => e = .returned (.agg (bvs (shaB m)).toArray) ∧ Below w.heap.size w w' := by
  obtain ⟨i0, hi, hi0, hi1, hi2⟩ := info_parts infoU8
  obtain ⟨a0, c0, rfl⟩ := hr.slice
  obtain ⟨n, hn⟩ : ∃ n, n = m.length := ⟨_, rfl⟩
  rw [← hn] at hr hlen ⊢
  have HNN := Lib.hid hn
  have HR := Lib.hid hr
  have HLN := Lib.hid hlen
  have CS := Lib.hid (fun w0 => rstarts_any w0)
  obtain ⟨S, hS⟩ : ∃ k, k = (wds S0.l).toArray := ⟨_, rfl⟩
  rw [← hS] at CS
  have HS0 := Lib.hid hS
  clear hn hr hlen hS
  go_enter Try.func32, Try.ntmps32
  go_wp2_with (at_builtin; apply Stop.mk)
  refine Stop.go ?_
  obtain ⟨wa, ha, hak, hab, has⟩ := alloc_cb w 24 (bvs (List.replicate 32 0))
  change wpList _ _ _ _ _ (w.alloc (.cells (bvs (List.replicate 32 0)).toArray 24))
  rw [← ha]
  clear ha
  obtain ⟨N, hN⟩ : ∃ N, N = w.heap.size := ⟨_, rfl⟩
  have hra := HR.out.fresh hab
  rw [← hN] at hak hab has ⊢
  rw [HNN.out] at hra
  refine wpList_append_vw _ rfl _ (.tmp 11) 42 rfl (N + 1) 5 i0 Try.underlying42 hi hi0 hi1 hi2 (.slice none 0 0) [] rfl (Vw.nil _ _) (.slice a0 n c0) m rfl (by rw [HNN.out]; exact hra) (by simp; have := HLN.out; have := HNN.out; omega) (by omega) ?_
  intro v1 w1 hv1 hb1
  rw [List.nil_append] at hv1
  obtain ⟨a1, c1, rfl⟩ := hv1.slice
  rw [← HNN.out] at hv1 ⊢
  have hO1 := hak.below hb1 (by omega)
  have hB1 : Below N w w1 := hab.trans (hb1.mono (by omega))
  have hz1 : N + 1 ≤ w1.heap.size := by have := hb1.size; omega
  have HV1 := Lib.hid hv1
  have HO1 := Lib.hid hO1
  have HB1 := Lib.hid hB1
  have HN := Lib.hid hN
  clear hak hab has hra hv1 hb1 hO1 hB1 hN
  go_wp2_with (at_builtin; apply Stop.mk)
  refine Stop.go ?_
  have hbx : Below w1.heap.size w1 (w1.alloc (.cells #[.int .u8 128] 5)) := (Below.refl _ w1).alloc (Nat.le_refl _) _
  refine wpList_append_vw _ rfl (.tmp 12) (.tmp 13) 42 rfl (N + 1) 5 i0 Try.underlying42 hi hi0 hi1 hi2 (.slice a1 n c1) m rfl (HV1.out.fresh hbx) _ [128] rfl (rd_one8 w1 128 5) (by simp; have := HLN.out; have := HNN.out; omega) (by have := hbx.size; omega) ?_
  intro v2 w2 hv2 hb2
  obtain ⟨a2, c2, rfl⟩ := hv2.slice
  have hO2 := (HO1.out.below hbx (by omega)).below hb2 (by omega)
  have hB2 : Below N w w2 := (HB1.out.trans (hbx.mono (by omega))).trans (hb2.mono (by omega))
  have hz2 : N + 1 ≤ w2.heap.size := by have := hb2.size; have := hbx.size; omega
  obtain ⟨Z, hZ⟩ : ∃ Z, Z = (119 - n % 64) % 64 := ⟨_, rfl⟩
  have HV2 := Lib.hid hv2
  have HO2 := Lib.hid hO2
  have HB2 := Lib.hid hB2
  have HZ := Lib.hid hZ
  clear hv2 hb2 hO2 hB2 hbx HV1 HO1 HB1 hz1 hZ
  go_wp2
  go_loopw [3] (fun v3 wr => ∃ z : Nat, z ≤ Z ∧ Vw wr (N + 1) v3 (m ++ [128] ++ List.replicate z 0) ∧ Below (N + 1) w2 wr)
    (fun v _ => n + 1 + Z - sliceLen v)
  case atStart => exact ⟨0, by omega, by simpa using HV2.out, Below.refl _ _⟩
  case round =>
    obtain ⟨z, hzZ, h1, h2⟩ := hrel
    obtain ⟨a3, c3, rfl⟩ := h1.slice
    obtain ⟨X, hX⟩ : ∃ X, X = (m ++ [128] ++ List.replicate z 0).length := ⟨_, rfl⟩
    have hXn : X = n + 1 + z := by rw [hX]; simp; have := HNN.out; omega
    rw [← hX] at h1
    have H1 := Lib.hid h1
    have H2 := Lib.hid h2
    clear h1 h2 HV2
    rw [← hX]
    have HX := Lib.hid hX
    clear hX
    have hsz : N + 1 ≤ wr.heap.size := by have := H2.out.size; omega
    by_cases hlt : z < Z
    · have hq : ((X : Int) % 64 != 56) = true := by have := HZ.out; simp; omega
      have hq' : ¬ ((X : Int) % 64 = 56) := by have := HZ.out; omega
      have hbx : Below wr.heap.size wr (wr.alloc (.cells #[.int .u8 0] 5)) := (Below.refl _ wr).alloc (Nat.le_refl _) _
      have HBX := Lib.hid hbx
      clear hbx
      have HXN0 := Lib.hid hXn
      clear hXn
      go_wp2_with (at_builtin; apply Stop.mk)
      refine Stop.go ?_
      refine wpList_append_vw _ rfl (.tmp 19) (.tmp 20) 42 rfl (N + 1) 5 i0 Try.underlying42 hi hi0 hi1 hi2 (.slice a3 X c3) _ rfl (H1.out.fresh HBX.out) _ [0] rfl (rd_one8 wr 0 5) (by rw [← HX.out]; simp; have := HLN.out; have := HZ.out; have := HXN0.out; omega) (by have := HBX.out.size; omega) ?_
      intro v4 w4 hv4 hb4
      have hv4' : Vw w4 (N + 1) v4 (m ++ [128] ++ List.replicate (z + 1) 0) := by
        rw [List.replicate_succ', ← List.append_assoc]
        exact hv4
      obtain ⟨a4, c4, hv4e⟩ := hv4'.slice
      have hXl : (m ++ [128] ++ List.replicate (z + 1) 0).length = X + 1 := by simp; have := HNN.out; have := HXN0.out; omega
      rw [hXl] at hv4e
      subst hv4e
      have H14 := Lib.hid hv4'
      have H24 := Lib.hid ((H2.out.trans (HBX.out.mono (by omega))).trans (hb4.mono (Nat.le_refl _)))
      clear hv4 hv4' hb4 hXl
      go_wp2
      go_roundw
      case rel => exact ⟨z + 1, by omega, H14.out, H24.out⟩
      case measure =>
        have := HXN0.out
        simp only [sliceLen]
        omega
    · have hzz : z = Z := by omega
      have hq : ((X : Int) % 64 != 56) = false := by have := HZ.out; simp; omega
      have hq' : ((X : Int) % 64 = 56) := by have := HZ.out; omega
      obtain ⟨B8, hB8⟩ : ∃ b, b = n * 8 := ⟨_, rfl⟩
      have hnI : (n : Int) ≤ 100000000 := by have := HLN.out; omega
      have g8 : IntKind.u64.wrap ((n : Int) * 8) = (B8 : Int) := by rw [IntKind.wrap_u64]; omega
      have gn : IntKind.u64.wrap (n : Int) = (n : Int) := by rw [IntKind.wrap_u64]; omega
      have HZZ := Lib.hid hzz
      have HB8 := Lib.hid hB8
      have HXN := Lib.hid hXn
      clear hzz hB8 hnI hXn
      go_wp2
      try rw [hq]
      clear hq hq'
      rename World => wy
      go_loopw [3, 5] (fun v3 v5 wr => ∃ k : Nat, k ≤ 8 ∧ v5 = .int .i64 (7 - (k : Int)) ∧ Vw wr (N + 1) v3 (m ++ [128] ++ List.replicate z 0 ++ be8 B8 k) ∧ Below (N + 1) w2 wr)
        (fun _ v _ => (intOf v + 1).toNat)
      case atStart => exact ⟨0, by omega, rfl, by simpa [be8] using H1.out, H2.out⟩
      case round =>
        clear H1 H2
        obtain ⟨k, hk8, rfl, h1, h2⟩ := hrel
        obtain ⟨a5, c5, rfl⟩ := h1.slice
        obtain ⟨Y, hY⟩ : ∃ Y, Y = (m ++ [128] ++ List.replicate z 0 ++ be8 B8 k).length := ⟨_, rfl⟩
        have hYn : Y = n + 1 + z + k := by rw [hY]; simp; have := HNN.out; omega
        rw [← hY] at h1 ⊢
        have H1 := Lib.hid h1
        have H2 := Lib.hid h2
        have HY := Lib.hid hY
        have HYN := Lib.hid hYn
        clear h1 h2 hY hYn
        have hsz : N + 1 ≤ wr.heap.size := by have := H2.out.size; omega
        by_cases hlt : k < 8
        · obtain ⟨i, hi5⟩ : ∃ i, i = 7 - k := ⟨_, rfl⟩
          obtain ⟨sh, hsh⟩ : ∃ v, v = 8 * i := ⟨_, rfl⟩
          have e7 : (7 - (k : Int)) = (i : Int) := by omega
          have e3 : IntKind.i64.wrap (8 * (i : Int)) = (sh : Int) := by rw [IntKind.wrap_i64]; omega
          have gi : IntKind.i64.wrap ((i : Int) - 1) = (i : Int) - 1 := by rw [IntKind.wrap_i64]; omega
          have e4 : IntKind.u64.wrap (sh : Int) = (sh : Int) := by rw [IntKind.wrap_u64]; omega
          have EI := Lib.hid (And.intro hi5 hsh)
          obtain ⟨bt, hbt⟩ : ∃ b : UInt8, b = UInt8.ofNat (B8 / 2 ^ (8 * (7 - k))) := ⟨_, rfl⟩
          have hbv : ((B8 : Int) / 2 ^ min sh 64 % 256) = (bt.toNat : Int) := by
            have h3 : ((B8 / 2 ^ (8 * (7 - k)) : Nat) : Int) = (B8 : Int) / 2 ^ min sh 64 := by
              rw [show min sh 64 = 8 * (7 - k) by omega]
              simp
            have h4 : bt.toNat = B8 / 2 ^ (8 * (7 - k)) % 256 := by rw [hbt]; simp
            rw [← h3, h4]
            simp
          have HBT := Lib.hid (And.intro hbt hbv)
          rw [e7]
          have HE7 := Lib.hid e7
          clear hi5 hsh hbt hbv e7
          go_wp2_with (at_builtin; apply Stop.mk)
          refine Stop.go ?_
          rw [HBT.out.2]
          have hbx : Below wr.heap.size wr (wr.alloc (.cells #[.int .u8 (bt.toNat : Int)] 5)) := (Below.refl _ wr).alloc (Nat.le_refl _) _
          have HBX := Lib.hid hbx
          clear hbx
          refine wpList_append_vw _ rfl (.tmp 30) (.tmp 37) 42 rfl (N + 1) 5 i0 Try.underlying42 hi hi0 hi1 hi2 (.slice a5 Y c5) _ rfl (H1.out.fresh HBX.out) _ [bt] rfl (rd_one8 wr bt 5) (by rw [← HY.out]; simp; have := HLN.out; have := HYN.out; have := HZ.out; have := HZZ.out; omega) (by have := HBX.out.size; omega) ?_
          intro v6 w6 hv6 hb6
          have hv6' : Vw w6 (N + 1) v6 (m ++ [128] ++ List.replicate z 0 ++ be8 B8 (k + 1)) := by
            rw [HBT.out.1, List.append_assoc] at hv6
            exact hv6
          obtain ⟨a6, c6, hv6e⟩ := hv6'.slice
          have hYl : (m ++ [128] ++ List.replicate z 0 ++ be8 B8 (k + 1)).length = Y + 1 := by simp; have := HNN.out; have := HYN.out; omega
          rw [hYl] at hv6e
          subst hv6e
          have H16 := Lib.hid hv6'
          have H26 := Lib.hid ((H2.out.trans (HBX.out.mono (by omega))).trans (hb6.mono (Nat.le_refl _)))
          clear hv6 hv6' hb6 hYl
          go_wp2
          go_roundw
          case rel =>
            refine ⟨k + 1, by omega, ?_, H16.out, H26.out⟩
            have := HE7.out
            simp only [Value.int.injEq, true_and]
            omega
          case measure =>
            have := HE7.out
            simp only [intOf]
            omega
        · have hk : k = 8 := by omega
          obtain ⟨M, hM⟩ : ∃ M, M = m ++ padB m.length := ⟨_, rfl⟩
          have hM2 : m ++ [128] ++ List.replicate z 0 ++ be8 B8 k = M := by
            rw [hM, hk, HB8.out, HZZ.out, HZ.out, HNN.out]
            unfold padB
            simp
          have hv7 := H1.out
          rw [hM2] at hv7
          have hYM : Y = M.length := by rw [HY.out, hM2]
          have hM64 : M.length % 64 = 0 := by rw [hM, List.length_append]; exact pad_whole _
          have hO7 : CB wr 24 N (bvs (List.replicate 32 0)) := HO2.out.below H2.out (by omega)
          have hB7 : Below N w wr := HB2.out.trans (H2.out.mono (by omega))
          have e7 : (7 - (k : Int)) = -1 := by omega
          rw [e7]
          have HV7 := Lib.hid hv7
          have HYM := Lib.hid hYM
          have HM := Lib.hid hM
          have HM64 := Lib.hid hM64
          have HO7 := Lib.hid hO7
          have HB7 := Lib.hid hB7
          have HK8 := Lib.hid hk
          have HSZ := Lib.hid hsz
          clear hv7 hYM hM hM64 hO7 hB7 hk H1 H2 hM2 e7 hsz
          go_wp2_with fail
          refine (CS.out wr).mono ?_
          rintro e w7 ⟨rfl, hb7⟩
          have hv7 := HV7.out.fresh hb7
          have hO7 := HO7.out.fresh hb7
          have hB7 := HB7.out.trans (hb7.mono (by have := HSZ.out; omega))
          have hs7 : N + 1 ≤ w7.heap.size := by have := hb7.size; have := HSZ.out; omega
          rw [HS0.out]
          go_wp2_with (with_reducible refine stopStore 99 ?_)
          refine Stop.go ?_
          obtain ⟨w8, hw8, h8k, h8b, h8z⟩ := alloc_cb w7 99 (wds (List.replicate 8 0))
          change wpList _ _ _ _ _ (w7.alloc (.cells (wds (List.replicate 8 0)).toArray 99))
          rw [← hw8]
          clear hw8
          obtain ⟨Q, hQ⟩ : ∃ Q, Q = w7.heap.size := ⟨_, rfl⟩
          rw [← hQ] at h8k h8b h8z hs7 ⊢
          refine wpList_store_var rfl 99 (.tmp 6) (.tmp 39) rfl Q _ rfl _ (wds S0.l) rfl h8k (by simp [wds_length, St.l]) (wds_one _) (by rw [wds_length]; exact infoW8) ?_
          intro w9 hb9 ho9
          have h9 : Below Q w7 w9 := Below.only h8b ho9 (Nat.le_refl _)
          have HQ9 : Hid (CB w9 99 Q (wds (pressN 0 S0 M).l)) := Lib.hid hb9
          have H9 := Lib.hid h9
          have HV8 := Lib.hid hv7
          have HO8 := Lib.hid hO7
          have HB8' := Lib.hid hB7
          have HQ := Lib.hid hQ
          have hq1 : Q + 1 ≤ w9.heap.size := by have := ho9.size; omega
          have HQ1 := Lib.hid hq1
          obtain ⟨s0, hs0⟩ : ∃ s, s = wds S0.l := ⟨_, rfl⟩
          rw [← hs0]
          clear hb9 ho9 h9 h8k h8b h8z hv7 hO7 hB7 hQ hb7 HV7 HO7 HB7 HS0 hs0 hq1
          go_wp2
          rename World => wx
          go_loopw [7] (fun v7 wr => ∃ j : Nat, 64 * j ≤ Y ∧ v7 = .int .i64 ((64 * j : Nat) : Int) ∧ CB wr 99 Q (wds (pressN j S0 M).l) ∧ Below Q w7 wr ∧ Q + 1 ≤ wr.heap.size)
            (fun v _ => Y - (intOf v).toNat)
          case atStart => exact ⟨0, by omega, rfl, HQ9.out, H9.out, HQ1.out⟩
          case round =>
            clear HQ9 H9 HQ1
            obtain ⟨j, hj, rfl, h1, h2, h3⟩ := hrel
            have J1 := Lib.hid h1
            have J2 := Lib.hid h2
            have J3 := Lib.hid h3
            clear h1 h2 h3
            obtain ⟨o, ho⟩ : ∃ o, o = 64 * j := ⟨_, rfl⟩
            rw [← ho] at hj ⊢
            have HO := Lib.hid ho
            clear ho
            by_cases hlt : o < Y
            · have ho64 : o + 64 ≤ Y := by have := HO.out; have := HM64.out; have := HYM.out; omega
              rcases HV8.out with ⟨_, hn0⟩ | ⟨g, off, c, he, hbg, hRc, hcm, _, _⟩
              · have := HYM.out; rw [hn0] at this; simp at this; omega
              simp only [Value.slice.injEq] at he
              obtain ⟨rfl, hx1, rfl⟩ := he
              clear hx1
              rw [← HYM.out] at hRc
              have hoc : (o : Int) + 64 ≤ (c5 : Int) := by omega
              have hne : ¬ (c5 = o) := by omega
              obtain ⟨o2, ho2⟩ : ∃ x, x = o + 64 := ⟨_, rfl⟩
              have hYs : Y ≤ 200000000 := by have := HXN.out; have := HYN.out; have := HLN.out; have := HZ.out; have := HZZ.out; omega
              have go2 : IntKind.i64.wrap ((o : Int) + 64) = (o2 : Int) := by rw [IntKind.wrap_i64]; omega
              have bo2 : (o2 : Int) ≤ (c5 : Int) := by omega
              have boo : (o : Int) ≤ (o2 : Int) := by omega
              have e64 : o2 - o = 64 := by omega
              have HO2' := Lib.hid ho2
              clear ho2 hYs hoc
              have hlen64 : ((M.drop o).take 64).length = 64 := by rw [List.length_take, List.length_drop, ← HYM.out]; omega
              have hrb : Rd wr 1 (.slice (some ⟨g, off + o, none⟩) 64 (c5 - o)) 64 (bvs ((M.drop o).take 64)) := by
                have h1 := HV8.out.rd
                rw [← HYM.out] at h1
                have h2 := h1.below' (J2.out.mono (by have := HQ.out; omega)) HQ.out
                have h3 := Rd.drop h2 o (c5 - o) (by omega) (by omega) (by omega)
                have h4 := Rd.take h3 64 (c5 - o) (by omega) (by omega) (by omega)
                rw [add_at] at h4
                exact h4
              have HRB := Lib.hid hrb
              have HL64 := Lib.hid hlen64
              clear hrb hlen64 hRc hcm
              go_wp2_with fail
              obtain ⟨wf, hwf, hfk, hfb, hfz⟩ := alloc_cb wr 101 (bvs (List.replicate 64 0))
              change Code.wp _ _ _ _ (wr.alloc (.cells (bvs (List.replicate 64 0)).toArray 101))
              rw [← hwf]
              clear hwf
              obtain ⟨F, hF⟩ : ∃ F, F = wr.heap.size := ⟨_, rfl⟩
              have hrf := HRB.out.fresh hfb
              rw [← hF] at hfk hfb hfz ⊢
              have HRF := Lib.hid hrf
              have HFK : Hid (BB wf 101 F (List.replicate 64 0)) := Lib.hid hfk
              have HFB := Lib.hid hfb
              have HFZ := Lib.hid hfz
              have HF := Lib.hid hF
              clear hrf hfk hfb hfz hF HRB
              go_still_tail 6, (by kernel_rfl)
              change wpList _ _ _ _ _ wf.drew
              refine wpList_copy_all rfl (.tmp 46) (.tmp 51) 42 42 rfl 5 Try.underlying42 sizeU8 F 64 64 101 (List.replicate 64 0) ((M.drop o).take 64) (.slice (some ⟨g, off + o, none⟩) 64 (c5 - o)) 64 rfl rfl rfl HFK.out HRF.out ?_
              intro wg hbg' hog
              obtain ⟨blk, hblk⟩ : ∃ b, b = (M.drop o).take 64 := ⟨_, rfl⟩
              have hbl : blk.length = 64 := by rw [hblk]; exact HL64.out
              have hbb : BB wg 101 F blk := by
                rw [← hblk] at hbg'
                have h1 : List.take 64 blk ++ List.drop (Nat.min 64 64) (List.replicate 64 0) = blk := by
                  rw [List.take_of_length_le (by omega)]
                  simp
                rw [h1] at hbg'
                exact hbg'
              have hBf : Below Q w7 wf := J2.out.trans (HFB.out.mono (by have := HF.out; have := J3.out; omega))
              have hBg : Below Q w7 wg := Below.only hBf.drew hog (by have := HF.out; have := J3.out; omega)
              have hQg : CB wg 99 Q (wds (pressN j S0 M).l) := CB.only (CB.drew (J1.out.fresh (by rw [← HF.out]; exact HFB.out))) hog (by have := HF.out; have := J3.out; omega)
              have hzg : Q + 1 ≤ wg.heap.size := by rw [hog.size]; have := HFZ.out; have := HF.out; have := J3.out; show Q + 1 ≤ wf.heap.size; omega
              obtain ⟨st, hst⟩ : ∃ st, st = pressN j S0 M := ⟨_, rfl⟩
              rw [← hst] at hQg
              have HST := Lib.hid hst
              have HBL := Lib.hid hbl
              have HBLK := Lib.hid hblk
              have HBB := Lib.hid hbb
              have HBG := Lib.hid hBg
              have HQG := Lib.hid hQg
              have HZG := Lib.hid hzg
              clear hst hbl hblk hbb hBf hBg hQg hzg hbg' hog J1 J2 J3 HFB HFK HRF HL64
              go_wp2_with (with_reducible refine stopAt 53 ?_)
              refine Stop.go ?_
              refine wpList_load_agg rfl 99 (.tmp 6) rfl ⟨Q, 0, none⟩ rfl (wds st.l) _ HQG.out.at.load Try.underlying99 rfl (by rw [wds_length]; exact infoW8) ?_
              go_wp2_with (with_reducible refine stopAt 54 ?_)
              refine Stop.go ?_
              refine wpList_load_agg rfl 101 (.tmp 8) rfl ⟨F, 0, none⟩ rfl (bvs blk) _ (At.block HBB.out).load Try.underlying101 rfl (by rw [bvs_length, HBL.out]; exact infoB64) ?_
              go_wp2_with fail
              refine (rpress_any wg st blk HBL.out).mono ?_
              rintro e wh ⟨rfl, hbh⟩
              have hQh := HQG.out.fresh hbh
              have hBh := HBG.out.trans (hbh.mono (by have := HZG.out; omega))
              have hzh : Q + 1 ≤ wh.heap.size := by have := hbh.size; have := HZG.out; omega
              obtain ⟨st', hst'⟩ : ∃ s', s' = pressS KS st blk := ⟨_, rfl⟩
              rw [← hst']
              have HST' := Lib.hid hst'
              have HQH := Lib.hid hQh
              have HBH := Lib.hid hBh
              have HZH := Lib.hid hzh
              clear hst' hQh hBh hzh hbh HQG HBG HZG HBB
              go_wp2_with (with_reducible refine stopStore 99 ?_)
              refine Stop.go ?_
              refine wpList_store_var rfl 99 (.tmp 6) (.tmp 55) rfl Q _ rfl _ (wds st'.l) rfl HQH.out (by simp [wds_length, St.l]) (wds_one _) (by rw [wds_length]; exact infoW8) ?_
              intro wi hbi hoi2
              have HQI : Hid (CB wi 99 Q (wds (pressN (j + 1) S0 M).l)) := by
                have h1 : st' = pressN (j + 1) S0 M := by rw [HST'.out, pressN_snoc, HST.out, HBLK.out, HO.out]
                rw [← h1]
                exact Lib.hid hbi
              have HBI := Lib.hid (Below.only HBH.out hoi2 (Nat.le_refl _))
              have HZI : Hid (Q + 1 ≤ wi.heap.size) := Lib.hid (by rw [hoi2.size]; exact HZH.out)
              clear hbi hoi2 HQH HBH HZH
              go_wp2
              go_roundw
              case rel =>
                have := HO.out
                have := HO2'.out
                refine ⟨j + 1, by omega, ?_, HQI.out, HBI.out, HZI.out⟩
                simp only [Value.int.injEq, true_and]
                omega
              case measure =>
                have := HO2'.out
                simp only [intOf]
                omega
            · have hoY : o = Y := by omega
              have hjj : M.length / 64 = j := by have := HO.out; have := HYM.out; omega
              have hbq : (decide ((o : Int) < (Y : Int))) = false := by simp; omega
              have hfin : shaB m = outB (pressN j S0 M).l := by
                unfold shaB
                rw [← HM.out, hjj]
              obtain ⟨st, hst⟩ : ∃ st, st = pressN j S0 M := ⟨_, rfl⟩
              rw [← hst] at hfin
              have hQg := J1.out
              rw [← hst] at hQg
              have HFIN := Lib.hid hfin
              have HQG := Lib.hid hQg
              clear hfin hQg hst hoY hjj J1
              go_wp2
              try rw [hbq]
              clear hbq
              rename World => wk
              obtain ⟨wl, hwl, hlk, hlb, hlz⟩ := alloc_cb wk 24 (bvs (List.replicate 32 0))
              change Code.wp _ _ _ _ (wk.alloc (.cells (bvs (List.replicate 32 0)).toArray 24))
              rw [← hwl]
              clear hwl
              obtain ⟨R, hR⟩ : ∃ R, R = wk.heap.size := ⟨_, rfl⟩
              rw [← hR] at hlk hlb hlz ⊢
              have hQR : Q + 1 ≤ R := by have := J3.out; omega
              have HLK : Hid (BB wl 24 R (List.replicate 32 0)) := Lib.hid hlk
              have HLB := Lib.hid hlb
              have HRR := Lib.hid hR
              clear hlk hlb hlz hR
              obtain ⟨O, hO⟩ : ∃ o, o = outB st.l := ⟨_, rfl⟩
              have hOl : O.length = 32 := by rw [hO, outB_length]; rfl
              have HOO := Lib.hid (And.intro hO hOl)
              clear hO hOl
              go_loopw [10] (fun v10 wr => ∃ i : Nat, i ≤ 32 ∧ v10 = .int .i64 (i : Int) ∧ BB wr 24 R (O.take i ++ List.replicate (32 - i) 0) ∧ Below R wk wr)
                (fun v _ => 32 - (intOf v).toNat)
              case atStart => exact ⟨0, by omega, rfl, by simpa using HLK.out, HLB.out⟩
              case round =>
                obtain ⟨i, hi32, rfl, h1, h2⟩ := hrel
                have L1 := Lib.hid h1
                have L2 := Lib.hid h2
                clear h1 h2 HLK HLB
                by_cases hlti : i < 32
                · obtain ⟨d, hd⟩ : ∃ d, d = i / 4 := ⟨_, rfl⟩
                  obtain ⟨r, hr⟩ : ∃ r, r = i % 4 := ⟨_, rfl⟩
                  obtain ⟨r8, hr8⟩ : ∃ x, x = 8 * r := ⟨_, rfl⟩
                  obtain ⟨sh, hsh⟩ : ∃ x, x = 24 - r8 := ⟨_, rfl⟩
                  obtain ⟨x, hx⟩ : ∃ x, x = st.l.getD d 0 := ⟨_, rfl⟩
                  obtain ⟨X, hX⟩ : ∃ n, n = x.toNat := ⟨_, rfl⟩
                  have fx : wr.cell? ⟨Q, d, none⟩ = some (.int .u32 (X : Int)) := by
                    rw [hX, hx]
                    exact (CB.below HQG.out L2.out (by omega)).cell d _ (wds_get _ _ (by simp [St.l]; omega))
                  have e1 : (i : Int).tdiv 4 = (d : Int) := by rw [hd]; exact (Int.ofNat_tdiv i 4).symm
                  have e2 : (i : Int).tmod 4 = (r : Int) := by rw [hr]; exact (Int.ofNat_tmod i 4).symm
                  have e1' : (i : Int) / 4 = (d : Int) := by omega
                  have e2' : (i : Int) % 4 = (r : Int) := by omega
                  have e3 : IntKind.i64.wrap (8 * (r : Int)) = (r8 : Int) := by rw [IntKind.wrap_i64]; omega
                  have e4 : IntKind.i64.wrap (24 - (r8 : Int)) = (sh : Int) := by rw [IntKind.wrap_i64]; omega
                  have e5 : IntKind.u64.wrap (sh : Int) = (sh : Int) := by rw [IntKind.wrap_u64]; omega
                  have e6 : (0 : Int) ≤ (sh : Int) := by omega
                  have bd : (d : Int) < 8 := by omega
                  have bi : (i : Int) < 32 := by omega
                  have hgo := outB_get st.l i (by simp [St.l]; omega)
                  rw [← HOO.out.1, ← hd, ← hr, ← hx, ← hX] at hgo
                  have hz : (O.take i ++ List.replicate (32 - i) 0)[i]? = some 0 := by
                    rw [List.getElem?_append_right (by rw [List.length_take]; omega), List.getElem?_replicate, if_pos (by rw [List.length_take, HOO.out.2]; omega)]
                  have cz := L1.out.cell i 0 hz
                  have fz := L1.out.free i
                  unfold bv at cz
                  have HGO := Lib.hid hgo
                  have HSH : Hid (sh = 24 - 8 * r ∧ sh ≤ 24) := Lib.hid ⟨by omega, by omega⟩
                  clear hgo hz hd hr hr8 hsh hx hX
                  go_wp2
                  go_roundw
                  case rel =>
                    refine ⟨i + 1, by omega, by go_num, ?_, L2.out.setCell (Nat.le_refl _) _⟩
                    have h1 := L1.out.set i (UInt8.ofNat (X / 2 ^ (24 - 8 * r)))
                    have hl0 : (O.take i).length = i := by rw [List.length_take, HOO.out.2]; omega
                    rw [show 32 - i = (32 - (i + 1)) + 1 by omega, List.replicate_succ, List.set_append_right _ _ (by omega), hl0, Nat.sub_self, List.set_cons_zero] at h1
                    have h2 : O.take (i + 1) = O.take i ++ [UInt8.ofNat (X / 2 ^ (24 - 8 * r))] := by
                      rw [List.take_add_one, HGO.out]
                      rfl
                    rw [h2, List.append_assoc]
                    rw [bv_ofNat] at h1
                    have h3 : ((X / 2 ^ (24 - 8 * r) : Nat) : Int) = (X : Int) / 2 ^ min sh 32 := by
                      have := HSH.out
                      rw [show min sh 32 = 24 - 8 * r by omega]
                      simp
                    rw [h3] at h1
                    exact h1
                  case measure =>
                    simp only [intOf]
                    omega
                · have hi32' : i = 32 := by omega
                  have h1 : BB wr 24 R O := by
                    have h2 := L1.out
                    rw [hi32', List.take_of_length_le (by rw [HOO.out.2]; exact Nat.le_refl _)] at h2
                    simpa using h2
                  have hON : CB wr 24 N (bvs (List.replicate 32 0)) := CB.below (CB.below HO8.out J2.out (by omega)) L2.out (by omega)
                  have hBN : Below N w wr := (HB8'.out.trans (J2.out.mono (by omega))).trans (L2.out.mono (by omega))
                  have hOf : O = shaB m := by rw [HOO.out.1, HFIN.out]
                  have HB9 := Lib.hid h1
                  have HON := Lib.hid hON
                  have HBN := Lib.hid hBN
                  have HOF := Lib.hid hOf
                  clear h1 hON hBN hOf hi32' L1 L2 J2
                  go_wp2_with (with_reducible refine stopAt 73 ?_)
                  refine Stop.go ?_
                  refine wpList_load_agg rfl 24 (.tmp 9) rfl ⟨R, 0, none⟩ rfl (bvs O) _ (At.block HB9.out).load Try.underlying24 rfl (by rw [bvs_length, HOO.out.2]; exact infoHash) ?_
                  go_wp2_with (with_reducible refine stopStore 24 ?_)
                  refine Stop.go ?_
                  refine wpList_store_var rfl 24 (.tmp 2) (.tmp 73) rfl N _ rfl _ (bvs O) rfl HON.out (by simp [HOO.out.2]) (bvs_one _) (by rw [bvs_length, HOO.out.2]; exact infoHash) ?_
                  intro wz hbz hoz
                  have BZ := Below.only HBN.out hoz (Nat.le_refl _)
                  rw [HN.out] at BZ
                  have HBZ := Lib.hid hbz
                  have HBL2 := Lib.hid BZ
                  clear hbz hoz BZ
                  go_wp2
                  exact bodyPost_ret (results_cell1 rfl _ _ N _ _ _ _ rfl HBZ.out Try.underlying24 rfl (by simp [HOO.out.2, infoHash])) rfl ⟨by rw [HOF.out], HBL2.out⟩
end Go.Proofs.Ytkbahhnjoidhcaa

/- What is known of the hash; parts joined; texts under a name: the walks. -/
namespace Go.Proofs.Ytkbahhnjoidhcaa
set_option linter.unusedVariables false
set_option linter.unusedSimpArgs false
open Go.RowKit Go.Lib

theorem wpList_unguard' {P : Program} {ops : Array Oper} {rest : List Oper} {d : Option Tmp} {op : Op} {ty : TypeId} {pos : String} {after : Array Edge} {g : Option (Nat × Bool)} {a : Act} {w : World} {Q : Exit → Act → World → Prop}
    (hw : Region.wanted ⟨d, op, ty, pos, after, g⟩ (yielded ops a.tmps) = true) (h : wpList P ops Q (⟨d, op, ty, pos, after, none⟩ :: rest) a w) : wpList P ops Q (⟨d, op, ty, pos, after, g⟩ :: rest) a w := by
  unfold wpList at h ⊢
  rw [if_pos hw]
  rw [if_pos (by rfl)] at h
  exact h

theorem CB.rdAll {w : World} {e : TypeId} {g : Nat} {L : List Value} (h : CB w e g L) (hl : L.length ≤ maxLen) : Rd w 1 (.slice (some ⟨g, 0, none⟩) L.length L.length) L.length L := by
  refine ⟨by simp, .inr ⟨⟨g, 0, none⟩, L.length, rfl, Nat.le_refl _, hl, fun j u hj => ?_⟩⟩
  rw [add_at, Nat.zero_add]
  exact h.cell j u hj

theorem Pts.nil (w : World) : Pts w (.slice none 0 0) [] := ⟨[], Rd.nil w 1, fun i x hx => by simp at hx⟩

theorem Pts.one (w : World) (t : TypeId) (u : Value) (x : List UInt8) (hr : Rd w 1 u x.length (bvs x)) : Pts (w.alloc (.cells #[u] t)) (.slice (some ⟨w.heap.size, 0, none⟩) 1 1) [x] := by
  refine ⟨[u], rd_one w u t, fun i y hy => ?_⟩
  rcases i with _ | i
  · simp only [List.getElem?_cons_zero, Option.some.injEq] at hy
    subst hy
    exact ⟨u, rfl, hr.fresh ((Below.refl _ w).alloc (Nat.le_refl _) _)⟩
  · simp at hy

theorem take4 {l : List UInt8} {a b c d : UInt8} (h : l.take 4 = [a, b, c, d]) : l[0]? = some a ∧ l[1]? = some b ∧ l[2]? = some c ∧ l[3]? = some d := by
  have h0 := congrArg (fun x => x[0]?) h
  have h1 := congrArg (fun x => x[1]?) h
  have h2 := congrArg (fun x => x[2]?) h
  have h3 := congrArg (fun x => x[3]?) h
  simp only [List.getElem?_take] at h0 h1 h2 h3
  exact ⟨by simpa using h0, by simpa using h1, by simpa using h2, by simpa using h3⟩

theorem rd_marked (w : World) (e : TypeId) (L : List UInt8) (fz : Nat × Nat) (hl : L.length ≤ maxLen) : Rd (w.alloc (.cells (bvs L).toArray e fz)) 1 (.slice (some ⟨w.heap.size, 0, none⟩) L.length L.length) L.length (bvs L) := by
  refine ⟨by simp, .inr ⟨⟨w.heap.size, 0, none⟩, L.length, rfl, Nat.le_refl _, hl, fun j u hj => ?_⟩⟩
  rw [add_at, Nat.zero_add]
  simp only [World.cell?, heap_alloc_new]
  simpa using hj
end Go.Proofs.Ytkbahhnjoidhcaa

/- Texts under a name, and parts joined: the walks. -/
namespace Go.Proofs.Ytkbahhnjoidhcaa
set_option linter.unusedVariables false
set_option linter.unusedSimpArgs false
open Go.RowKit Go.Lib

/-- What is hashed under a name. -/
def textB (s m : List UInt8) : List UInt8 := UInt8.ofNat (s.take 255).length :: (s.take 255 ++ m)

theorem strCells_bvs (s : List UInt8) : strCells ⟨s.toArray⟩ = bvs s := rfl

theorem wpList_append_str {P : Program} (w : World) {ops : Array Oper} {rest : List Oper} {o : Oper} {a : Act} {Q : Exit → Act → World → Prop} (hgd : o.guard = none) (s x : Operand) (t u : TypeId)
    (ho : o.op = .call { callee := .builtin .append, args := #[s, x], argTypes := #[t, u] })
    (base : Nat) (e : TypeId) (i : TypeInfo) (ht : P.underlying t = some (.slice e)) (hu : P.underlying u = some .string) (hi : P.info? e = some i) (hz : i.zero = some (.int .u8 0)) (hsize : i.size = 1) (hby : i.bytes = 1)
    (v : Value) (n : Nat) (xs : List Value) (hs : a.eval s = v) (hown : w.ownsRow base e 1 v n xs) (S : ByteArray) (hx : a.eval x = .string S)
    (hlen : n + S.size ≤ 140737488355328) (hbase : base ≤ w.heap.size)
    (h : ∀ v' w', w'.ownsRow base e 1 v' (n + S.size) (xs ++ strCells S) → w.grownBy w' v.ownBlock → wpList P ops Q rest (a.put o.dst v') w') : wpList P ops Q (o :: rest) a w := by
  refine wpList_plain hgd fun K hK => ?_
  obtain ⟨v', w', hr, h2, h3, h4⟩ := run_append_own_string (P := P) (w := w) base t u o.type e i ht hu hi hz hsize hby v n xs hown S (by unfold maxLen; omega) hlen hbase
  unfold Oper.wp execOp
  simp only [ho, resolve, invoke, builtin, Sem.run_bind, Sem.run_pure, Result.andThen_ok, List.map_toArray, List.map_cons, List.map_nil, hs, hx, hr]
  exact hK _ _ (h v' w' h2 h3)

theorem own_one (w : World) (e : TypeId) (x : Value) (base : Nat) (hb : base ≤ w.heap.size) : (w.alloc (.cells #[x] e)).ownsRow base e 1 (.slice (some ⟨w.heap.size, 0, none⟩) 1 1) 1 [x] :=
  World.ownsRow_lit w #[x] 1 hb (by decide) rfl

theorem str_take (s : List UInt8) (n : Nat) : strCells ((⟨s.toArray⟩ : ByteArray).extract 0 n) = bvs (s.take n) := by
  unfold strCells
  rw [ByteArray.data_extract]
  simp [bvs, bv, Function.comp_def]
  rfl

set_option maxRecDepth 100000 in
theorem text_any (w : World) (v : Value) (s m : List UInt8) (hr : Rd w 1 v m.length (bvs m)) (hm : m.length ≤ 100000000) (hs : s.length ≤ 1000000) :
    Calls Try.prog 87 #[.string ⟨s.toArray⟩, v] w fun e w' => ∃ v', e = .returned v' ∧ Rd w' 1 v' (textB s m).length (bvs (textB s m)) ∧ Below w.heap.size w w' := by
  obtain ⟨i0, hi, hi0, hi1, hi2⟩ := info_parts infoU8
  have hT : (⟨s.toArray⟩ : ByteArray).size = s.length := by simp [ByteArray.size]
  obtain ⟨a0, c0, rfl⟩ := hr.slice
  obtain ⟨n, hn⟩ : ∃ n, n = m.length := ⟨_, rfl⟩
  rw [← hn] at hr hm ⊢
  obtain ⟨L0, hL0⟩ : ∃ x : UInt8, x = UInt8.ofNat (s.take 255).length := ⟨_, rfl⟩
  obtain ⟨N, hN⟩ : ∃ N, N = s.take 255 := ⟨_, rfl⟩
  have htx : textB s m = L0 :: (N ++ m) := by rw [hL0, hN]; rfl
  have hNl : N.length = min 255 s.length := by rw [hN, List.length_take]
  have HTX := Lib.hid htx
  have HR := Lib.hid hr
  have HLN := Lib.hid hm
  have HNN := Lib.hid hn
  clear htx hr hm hn
  have h0 := str_take s 255
  rw [← hN] at h0
  have h0l : ((⟨s.toArray⟩ : ByteArray).extract 0 255).size = min 255 s.length := by rw [ByteArray.size_extract, hT]; omega
  by_cases h255 : 255 < s.length
  · have hTi : (255 : Int) < ((⟨s.toArray⟩ : ByteArray).size : Int) := by omega
    obtain ⟨TT, hTT⟩ : ∃ t, t = (⟨s.toArray⟩ : ByteArray).extract 0 255 := ⟨_, rfl⟩
    rw [← hTT] at h0 h0l
    have HTT := Lib.hid (And.intro h0 (show TT.size ≤ 255 by omega))
    have hlb : Value.int .u8 255 = bv L0 := by
      rw [hL0, List.length_take, bv_ofNat]
      rw [show min 255 s.length = 255 by omega]
      rfl
    have HLB := Lib.hid hlb
    have hsz : TT.size = 255 := by omega
    clear h0 h0l hlb hL0 hN hNl hT
    generalize (⟨s.toArray⟩ : ByteArray) = T at *
    have htt' : T.extract 0 255 = TT := hTT.symm
    clear hTT
    go_enter Try.func87, Try.ntmps87
    go_wp2_with (at_builtin; apply Stop.mk)
    refine Stop.go ?_
    rw [HLB.out]
    obtain ⟨wa, hwa, hza, hba, hoa⟩ : ∃ wa, wa = w.alloc (.cells #[bv L0] 5) ∧ wa.heap.size = w.heap.size + 1 ∧ Below w.heap.size w wa ∧ wa.ownsRow w.heap.size 5 1 (.slice (some ⟨w.heap.size, 0, none⟩) 1 1) 1 (bvs [L0]) :=
      ⟨_, rfl, Array.size_push _, (Below.refl _ w).alloc (Nat.le_refl _) _, own_one w _ _ _ (Nat.le_refl _)⟩
    change wpList _ _ _ _ _ (w.alloc (.cells #[bv L0] 5))
    rw [← hwa]
    clear hwa
    have hra := HR.out.fresh hba
    refine wpList_append_str _ rfl (.tmp 13) (.tmp 14) 42 9 rfl w.heap.size 5 i0 Try.underlying42 Try.underlying9 hi hi0 hi1 hi2 (.slice (some ⟨w.heap.size, 0, none⟩) 1 1) 1 _ rfl hoa TT rfl (by have := HTT.out.2; omega) (by omega) ?_
    intro v1 w1 hown hgr
    have hb1 : Below w.heap.size w w1 := hba.grown hgr (by omega) (by simp [Value.ownBlock])
    have hr1 : Rd w1 1 (.slice a0 n c0) n (bvs m) := HR.out.below' hb1 rfl
    rw [HTT.out.1] at hown
    have hown2 : w1.ownsRow w.heap.size 5 1 v1 (1 + TT.size) (bvs (L0 :: N)) := hown
    obtain ⟨a1, c1, rfl⟩ := own_slice hown2
    have HO1 := Lib.hid hown2
    have HR1 := Lib.hid hr1
    have HB1 := Lib.hid hb1
    have hs1 : w.heap.size ≤ w1.heap.size := hb1.size
    clear hown hown2 hgr hb1 hr1 hra hoa hba hza
    obtain ⟨K, hK⟩ : ∃ K, K = 1 + TT.size := ⟨_, rfl⟩
    rw [← hK] at HO1 ⊢
    have HK := Lib.hid hK
    clear hK
    go_wp2_with (at_builtin; apply Stop.mk)
    refine Stop.go ?_
    refine wpList_append_rd _ rfl (.tmp 15) (.tmp 16) 42 rfl w.heap.size 5 i0 (.int .u8 0) 1 1 Try.underlying42 hi hi0 hi1 hi2 rfl (by decide) (.slice a1 K c1) K _ rfl HO1.out (.slice a0 n c0) n (bvs m) rfl HR1.out (bvs_one _) (by unfold maxLen; have := HK.out; have := HTT.out.2; have := HLN.out; omega) (by have := HK.out; have := HTT.out.2; have := HLN.out; omega) hs1 ?_
    intro v2 w2 hown2 hgr2 _ _
    have hb2 : Below w.heap.size w w2 := HB1.out.grown hgr2 hs1 (own_base HO1.out)
    have hr2 : Rd w2 1 v2 (textB s m).length (bvs (textB s m)) := by
      have h1 := Rd.of_own hown2
      rw [← bvs_append, List.cons_append] at h1
      have h2 : textB s m = L0 :: (N ++ m) := HTX.out
      have h3 : (L0 :: (N ++ m)).length = K + n := by have := h1.1; simpa using this
      rw [h2, h3]
      exact h1
    obtain ⟨a2, c2, rfl⟩ := hr2.slice
    have HR2 := Lib.hid hr2
    have HB2 := Lib.hid hb2
    clear hown2 hgr2 hb2 hr2
    go_wp2
    go_ret
    exact ⟨_, rfl, HR2.out, HB2.out⟩
  · have hTi : ¬ ((255 : Int) < ((⟨s.toArray⟩ : ByteArray).size : Int)) := by omega
    have hN' : N = s := by rw [hN, List.take_of_length_le (by omega)]
    obtain ⟨TT, hTT⟩ : ∃ t, t = (⟨s.toArray⟩ : ByteArray) := ⟨_, rfl⟩
    rw [← hTT] at hT hTi ⊢
    have h1 : strCells TT = bvs N := by rw [hTT, hN']; rfl
    have HTT := Lib.hid (And.intro h1 (show TT.size ≤ 255 by omega))
    obtain ⟨z, hz⟩ : ∃ z, z = TT.size := ⟨_, rfl⟩
    have hz' : IntKind.u8.wrap (z : Int) = (z : Int) := by
      rw [IntKind.wrap_u8']
      omega
    have hlb : Value.int .u8 (z : Int) = bv L0 := by
      rw [hL0, List.length_take, bv_ofNat, show min 255 s.length = z by omega]
      congr 1
      omega
    have HLB := Lib.hid hlb
    have hsz : TT.size = z := hz.symm
    clear h0 h0l hlb hL0 hN hNl hT h1 hN' hTT hz
    go_enter Try.func87, Try.ntmps87
    go_wp2_with (at_builtin; apply Stop.mk)
    refine Stop.go ?_
    rw [HLB.out]
    obtain ⟨wa, hwa, hza, hba, hoa⟩ : ∃ wa, wa = w.alloc (.cells #[bv L0] 5) ∧ wa.heap.size = w.heap.size + 1 ∧ Below w.heap.size w wa ∧ wa.ownsRow w.heap.size 5 1 (.slice (some ⟨w.heap.size, 0, none⟩) 1 1) 1 (bvs [L0]) :=
      ⟨_, rfl, Array.size_push _, (Below.refl _ w).alloc (Nat.le_refl _) _, own_one w _ _ _ (Nat.le_refl _)⟩
    change wpList _ _ _ _ _ (w.alloc (.cells #[bv L0] 5))
    rw [← hwa]
    clear hwa
    have hra := HR.out.fresh hba
    refine wpList_append_str _ rfl (.tmp 13) (.tmp 14) 42 9 rfl w.heap.size 5 i0 Try.underlying42 Try.underlying9 hi hi0 hi1 hi2 (.slice (some ⟨w.heap.size, 0, none⟩) 1 1) 1 _ rfl hoa TT rfl (by have := HTT.out.2; omega) (by omega) ?_
    intro v1 w1 hown hgr
    have hb1 : Below w.heap.size w w1 := hba.grown hgr (by omega) (by simp [Value.ownBlock])
    have hr1 : Rd w1 1 (.slice a0 n c0) n (bvs m) := HR.out.below' hb1 rfl
    rw [HTT.out.1] at hown
    have hown2 : w1.ownsRow w.heap.size 5 1 v1 (1 + TT.size) (bvs (L0 :: N)) := hown
    obtain ⟨a1, c1, rfl⟩ := own_slice hown2
    have HO1 := Lib.hid hown2
    have HR1 := Lib.hid hr1
    have HB1 := Lib.hid hb1
    have hs1 : w.heap.size ≤ w1.heap.size := hb1.size
    clear hown hown2 hgr hb1 hr1 hra hoa hba hza
    obtain ⟨K, hK⟩ : ∃ K, K = 1 + TT.size := ⟨_, rfl⟩
    rw [← hK] at HO1 ⊢
    have HK := Lib.hid hK
    clear hK
    go_wp2_with (at_builtin; apply Stop.mk)
    refine Stop.go ?_
    refine wpList_append_rd _ rfl (.tmp 15) (.tmp 16) 42 rfl w.heap.size 5 i0 (.int .u8 0) 1 1 Try.underlying42 hi hi0 hi1 hi2 rfl (by decide) (.slice a1 K c1) K _ rfl HO1.out (.slice a0 n c0) n (bvs m) rfl HR1.out (bvs_one _) (by unfold maxLen; have := HK.out; have := HTT.out.2; have := HLN.out; omega) (by have := HK.out; have := HTT.out.2; have := HLN.out; omega) hs1 ?_
    intro v2 w2 hown2 hgr2 _ _
    have hb2 : Below w.heap.size w w2 := HB1.out.grown hgr2 hs1 (own_base HO1.out)
    have hr2 : Rd w2 1 v2 (textB s m).length (bvs (textB s m)) := by
      have h1 := Rd.of_own hown2
      rw [← bvs_append, List.cons_append] at h1
      have h2 : textB s m = L0 :: (N ++ m) := HTX.out
      have h3 : (L0 :: (N ++ m)).length = K + n := by have := h1.1; simpa using this
      rw [h2, h3]
      exact h1
    obtain ⟨a2, c2, rfl⟩ := hr2.slice
    have HR2 := Lib.hid hr2
    have HB2 := Lib.hid hb2
    clear hown2 hgr2 hb2 hr2
    go_wp2
    go_ret
    exact ⟨_, rfl, HR2.out, HB2.out⟩
end Go.Proofs.Ytkbahhnjoidhcaa

/- The hash under a name, the program's own and the chapter's; parts joined: the walks. -/
namespace Go.Proofs.Ytkbahhnjoidhcaa
set_option linter.unusedVariables false
set_option linter.unusedSimpArgs false
open Go.RowKit Go.Lib

theorem infoSl : (Try.prog.info? 42).map (fun i => (i.zero, i.size, i.bytes)) = some (some (.slice none 0 0), 1, 24) := by kernel_rfl

theorem Pts.one_cell {w : World} {L : List (List UInt8)} {vs : List Value} {n : Nat} {v : Value} (hr : Rd w 1 v n vs) (hn : n = L.length) (h : ∀ (i : Nat) (x : List UInt8), L[i]? = some x → ∃ u, vs[i]? = some u ∧ Rd w 1 u x.length (bvs x)) : ∀ u ∈ vs, u.oneCell' = true := by
  intro u hu
  obtain ⟨i, hi, rfl⟩ := List.getElem_of_mem hu
  have hl : vs.length = n := by have := hr.1; simpa using this
  have hx : L[i]? = some (L[i]'(by omega)) := List.getElem?_eq_getElem (by omega)
  obtain ⟨u', hu', hr'⟩ := h i _ hx
  rw [List.getElem?_eq_getElem hi] at hu'
  cases hu'
  obtain ⟨a, c, he⟩ := hr'.slice
  rw [he]; rfl

set_option maxRecDepth 100000 in
theorem tag_any (w : World) (v : Value) (s : List UInt8) (L : List (List UInt8)) (hp : Pts w v L) (hL : L.length ≤ 100000) (hm : L.flatten.length ≤ 10000000) (hs : s.length ≤ 1000000) :
    Calls Try.prog 52 #[.string ⟨s.toArray⟩, v] w fun e w' => e = .returned (.agg (bvs (shaB (textB s L.flatten))).toArray) ∧ Below w.heap.size w w' := by
  obtain ⟨i0, hi, hi0, hi1, hi2⟩ := info_parts infoU8
  obtain ⟨j0, hj, hj0, hj1, hj2⟩ := info_parts infoSl
  have hT : (⟨s.toArray⟩ : ByteArray).size = s.length := by simp [ByteArray.size]
  obtain ⟨a0, c0, rfl⟩ := hp.slice
  have HP := Lib.hid hp; clear hp
  have HLL := Lib.hid (And.intro hL hm)
  obtain ⟨L0, hL0⟩ : ∃ x : UInt8, x = UInt8.ofNat (s.take 255).length := ⟨_, rfl⟩
  obtain ⟨N, hN⟩ : ∃ N, N = s.take 255 := ⟨_, rfl⟩
  have htx : textB s L.flatten = (L0 :: N) ++ L.flatten := by rw [hL0, hN]; rfl
  obtain ⟨Z, hZ⟩ : ∃ Z, Z = shaB (textB s L.flatten) := ⟨_, rfl⟩
  have hZl : Z.length = 32 := by rw [hZ]; exact shaB_length _
  have hfl : ((L0 :: N) :: L).flatten = textB s L.flatten := by rw [htx]; simp
  have HNl : Hid (N.length ≤ 255) := Lib.hid (by rw [hN, List.length_take]; omega)
  have CS : ∀ (w0 : World) (v0 : Value), Pts w0 v0 ((L0 :: N) :: L) → Calls Try.prog 66 #[v0] w0 fun e w' => e = .returned (.agg (bvs Z).toArray) ∧ Below w0.heap.size w0 w' := by
    intro w0 v0 hp0
    have h1 := sum_any w0 v0 _ hp0 (by rw [List.length_cons]; omega) (by have := HNl.out; rw [List.flatten_cons, List.length_append, List.length_cons]; omega)
    rw [hfl, ← hZ] at h1
    exact h1
  have HCS := Lib.hid CS
  have HZ := Lib.hid (And.intro hZ hZl)
  clear htx hZ hZl hfl CS hL hm
  obtain ⟨n, hn⟩ : ∃ n, n = L.length := ⟨_, rfl⟩
  rw [← hn] at HP HLL ⊢
  have HN := Lib.hid hn
  clear hn
  by_cases h255 : s.length ≤ 255
  · have hN' : N = s := by rw [hN, List.take_of_length_le h255]
    have h0 : strCells ((⟨s.toArray⟩ : ByteArray).extract 0 s.length) = bvs N := by rw [str_take, List.take_of_length_le (Nat.le_refl _), hN']
    obtain ⟨z, hz⟩ : ∃ z, z = s.length := ⟨_, rfl⟩
    rw [← hz] at h0 hT h255
    obtain ⟨TT, hTT⟩ : ∃ t, t = (⟨s.toArray⟩ : ByteArray).extract 0 z := ⟨_, rfl⟩
    have hsz : TT.size = z := by rw [hTT, ByteArray.size_extract, hT]; omega
    rw [← hTT] at h0
    have hlb : Value.int .u8 (z : Int) = bv L0 := by
      rw [hL0, List.length_take, bv_ofNat, ← hz]
      congr 1
      omega
    have HTT := Lib.hid (And.intro h0 (show TT.size ≤ 255 by omega))
    have HLB := Lib.hid hlb
    have hle : (z : Int) ≤ 255 := by omega
    have hz' : IntKind.u8.wrap (z : Int) = (z : Int) := by rw [IntKind.wrap_u8']; omega
    clear h0 hlb hL0 hN hN' hz hs
    generalize (⟨s.toArray⟩ : ByteArray) = T at *
    have htt' : T.extract 0 z = TT := hTT.symm
    clear hTT
    go_enter Try.func52, Try.ntmps52
    go_wp2_with (at_builtin; apply Stop.mk)
    refine Stop.go ?_
    rw [HLB.out]
    obtain ⟨wo, hwo, hok, hob, hoz⟩ := alloc_cb w 24 (bvs (List.replicate 32 0))
    obtain ⟨wa, hwa, hza, hba, hoa⟩ : ∃ wa, wa = wo.alloc (.cells #[bv L0] 5) ∧ wa.heap.size = wo.heap.size + 1 ∧ Below wo.heap.size wo wa ∧ wa.ownsRow wo.heap.size 5 1 (.slice (some ⟨wo.heap.size, 0, none⟩) 1 1) 1 (bvs [L0]) :=
      ⟨_, rfl, Array.size_push _, (Below.refl _ wo).alloc (Nat.le_refl _) _, own_one wo _ _ _ (Nat.le_refl _)⟩
    change wpList _ _ _ _ _ ((w.alloc (.cells (bvs (List.replicate 32 0)).toArray 24)).alloc (.cells #[bv L0] 5))
    rw [← hwo, ← hwa]
    clear hwo hwa
    obtain ⟨O, hO⟩ : ∃ O, O = w.heap.size := ⟨_, rfl⟩
    have hpa := (HP.out.fresh hob).fresh hba
    rw [← hO] at hok hob hoz ⊢
    rw [hoz] at hza hba hoa
    have hka := hok.below hba (by omega)
    have hBa : Below O w wa := hob.trans (hba.mono (by omega))
    refine wpList_append_str _ rfl (.tmp 13) (.tmp 14) 42 9 rfl (O + 1) 5 i0 Try.underlying42 Try.underlying9 hi hi0 hi1 hi2 (.slice (some ⟨O + 1, 0, none⟩) 1 1) 1 _ rfl hoa TT rfl (by have := HTT.out.2; omega) (by omega) ?_
    intro v1 w1 hown hgr
    have hs1 : wa.heap.size ≤ w1.heap.size := hgr.size
    have hb1 : Below (O + 1) wa w1 := (Below.refl _ wa).grown hgr (by omega) (by simp [Value.ownBlock])
    have hp1 : Pts w1 (.slice a0 n c0) L := by
      obtain ⟨vs, h1, h2⟩ := HP.out
      have hBw : Below w.heap.size w w1 := by rw [← hO]; exact hBa.trans (hb1.mono (by omega))
      exact Pts.fresh HP.out hBw
    rw [HTT.out.1] at hown
    have hown2 : w1.ownsRow (O + 1) 5 1 v1 (1 + TT.size) (bvs (L0 :: N)) := hown
    obtain ⟨a1, c1, rfl⟩ := own_slice hown2
    have hr1 := Rd.of_own hown2
    have hl1 : (L0 :: N).length = 1 + TT.size := by have := hr1.1; simpa using this
    have hk1 := hka.below hb1 (by omega)
    have hB1 : Below O w w1 := hBa.trans (hb1.mono (by omega))
    have HR1 := Lib.hid hr1
    have HP1 := Lib.hid hp1
    have HK1 := Lib.hid hk1
    have HB1 := Lib.hid hB1
    have HL1 := Lib.hid hl1
    have hz1 : O + 1 ≤ w1.heap.size := by omega
    have HO := Lib.hid hO
    clear hown hown2 hgr hb1 hr1 hp1 hk1 hB1 hl1 hka hBa hpa hok hob hoz hza hba hoa hO
    obtain ⟨K, hK⟩ : ∃ K, K = 1 + TT.size := ⟨_, rfl⟩
    rw [← hK] at HR1 HL1 ⊢
    have HK := Lib.hid hK
    clear hK
    go_wp2_with (at_builtin; apply Stop.mk)
    refine Stop.go ?_
    obtain ⟨wb, hwb, hzb, hbb, hob⟩ : ∃ wb, wb = w1.alloc (.cells #[.slice a1 K c1] 42) ∧ wb.heap.size = w1.heap.size + 1 ∧ Below w1.heap.size w1 wb ∧ wb.ownsRow (O + 1) 42 1 (.slice (some ⟨w1.heap.size, 0, none⟩) 1 1) 1 [.slice a1 K c1] :=
      ⟨_, rfl, Array.size_push _, (Below.refl _ w1).alloc (Nat.le_refl _) _, own_one w1 _ _ _ hz1⟩
    change wpList _ _ _ _ _ (w1.alloc (.cells #[.slice a1 K c1] 42))
    rw [← hwb]
    clear hwb
    obtain ⟨vs, hvr0, hvx⟩ := HP.out
    have hBw1 : Below w.heap.size w w1 := by rw [← HO.out]; exact HB1.out
    have hvr := (hvr0.fresh hBw1).fresh hbb
    have hone := Pts.one_cell hvr0 rfl hvx
    refine wpList_append_rd _ rfl (.tmp 16) (.tmp 17) 122 rfl (O + 1) 42 j0 (.slice none 0 0) 1 24 Try.underlying122 hj hj0 hj1 hj2 rfl (by decide) (.slice (some ⟨w1.heap.size, 0, none⟩) 1 1) 1 _ rfl hob (.slice a0 n c0) n vs rfl (by rw [← HN.out] at hvr; exact hvr) hone (by unfold maxLen; have := HLL.out; omega) (by have := HLL.out; omega) (by omega) ?_
    intro v2 w2 hown2 hgr2 _ hgrew
    have hb2 : Below w1.heap.size w1 w2 := Below.grown hbb hgr2 (by omega) (by simp [Value.ownBlock])
    have hBw2 : Below w.heap.size w w2 := hBw1.trans (hb2.mono hBw1.size)
    have hp2 : Pts w2 v2 ((L0 :: N) :: L) := by
      have h1 := Rd.of_own hown2
      have hr2 := HR1.out.fresh hb2
      have h5 : ((L0 :: N) :: L).length = 1 + n := by rw [List.length_cons, HN.out]; omega
      refine ⟨[.slice a1 K c1] ++ vs, by rw [h5]; exact h1, fun i x hx => ?_⟩
      rcases i with _ | i
      · simp only [List.getElem?_cons_zero, Option.some.injEq] at hx
        subst hx
        refine ⟨_, rfl, ?_⟩
        rw [HL1.out]
        exact hr2
      · rw [List.getElem?_cons_succ] at hx
        obtain ⟨u, hu, hru⟩ := hvx i x hx
        exact ⟨u, by simpa using hu, hru.fresh hBw2⟩
    have hk2 := HK1.out.below (hb2.mono hz1) (by omega)
    have hB2 : Below O w w2 := HB1.out.trans (hb2.mono (by omega))
    obtain ⟨a2, c2, rfl⟩ := hp2.slice
    have HP2 := Lib.hid hp2
    have HK2 := Lib.hid hk2
    have HB2 := Lib.hid hB2
    clear hvr0 hvx hBw1 hvr hone hown2 hgr2 hgrew hb2 hBw2 hp2 hk2 hB2 hob hzb hbb
    go_wp2_with fail
    refine (HCS.out _ _ HP2.out).mono ?_
    rintro e w3 ⟨rfl, hb3⟩
    have hk3 := HK2.out.fresh hb3
    have hB3 : Below O w w3 := HB2.out.trans (hb3.mono (by have := HB2.out.size; have := HO.out; omega))
    have HK3 := Lib.hid hk3
    have HB3 := Lib.hid hB3
    clear hb3 hk3 hB3
    go_wp2_with (with_reducible refine stopStore 24 ?_)
    refine Stop.go ?_
    refine wpList_store_var rfl 24 (.tmp 4) (.tmp 19) rfl O _ rfl _ (bvs Z) rfl HK3.out (by simp [HZ.out.2]) (bvs_one _) (by rw [bvs_length, HZ.out.2]; exact infoHash) ?_
    intro w4 hb4 ho4
    have BZ := Below.only HB3.out ho4 (Nat.le_refl _)
    rw [HO.out] at BZ
    have HBZ := Lib.hid hb4
    have HBL := Lib.hid BZ
    clear hb4 ho4 BZ
    go_wp2
    exact bodyPost_ret (results_cell1 rfl _ _ O _ _ _ _ rfl HBZ.out Try.underlying24 rfl (by simp [HZ.out.2, infoHash])) rfl ⟨by rw [HZ.out.1], HBL.out⟩
  · have h0 := str_take s 255
    rw [← hN] at h0
    obtain ⟨z, hz⟩ : ∃ z, z = s.length := ⟨_, rfl⟩
    rw [← hz] at hT h255
    obtain ⟨TT, hTT⟩ : ∃ t, t = (⟨s.toArray⟩ : ByteArray).extract 0 255 := ⟨_, rfl⟩
    have hsz : TT.size = 255 := by rw [hTT, ByteArray.size_extract, hT]; omega
    rw [← hTT] at h0
    have hlb : Value.int .u8 255 = bv L0 := by
      rw [hL0, List.length_take, bv_ofNat, ← hz, show min 255 z = 255 by omega]
      rfl
    have HTT := Lib.hid (And.intro h0 (show TT.size ≤ 255 by omega))
    have HLB := Lib.hid hlb
    have hle : (255 : Int) ≤ (z : Int) := by omega
    have hle2 : ¬ ((z : Int) ≤ 255) := by omega
    clear h0 hlb hL0 hN hz hs
    generalize (⟨s.toArray⟩ : ByteArray) = T at *
    have htt' : T.extract 0 255 = TT := hTT.symm
    clear hTT
    go_enter Try.func52, Try.ntmps52
    go_wp2_with (at_builtin; apply Stop.mk)
    refine Stop.go ?_
    rw [HLB.out]
    obtain ⟨wo, hwo, hok, hob, hoz⟩ := alloc_cb w 24 (bvs (List.replicate 32 0))
    obtain ⟨wa, hwa, hza, hba, hoa⟩ : ∃ wa, wa = wo.alloc (.cells #[bv L0] 5) ∧ wa.heap.size = wo.heap.size + 1 ∧ Below wo.heap.size wo wa ∧ wa.ownsRow wo.heap.size 5 1 (.slice (some ⟨wo.heap.size, 0, none⟩) 1 1) 1 (bvs [L0]) :=
      ⟨_, rfl, Array.size_push _, (Below.refl _ wo).alloc (Nat.le_refl _) _, own_one wo _ _ _ (Nat.le_refl _)⟩
    change wpList _ _ _ _ _ ((w.alloc (.cells (bvs (List.replicate 32 0)).toArray 24)).alloc (.cells #[bv L0] 5))
    rw [← hwo, ← hwa]
    clear hwo hwa
    obtain ⟨O, hO⟩ : ∃ O, O = w.heap.size := ⟨_, rfl⟩
    have hpa := (HP.out.fresh hob).fresh hba
    rw [← hO] at hok hob hoz ⊢
    rw [hoz] at hza hba hoa
    have hka := hok.below hba (by omega)
    have hBa : Below O w wa := hob.trans (hba.mono (by omega))
    refine wpList_append_str _ rfl (.tmp 13) (.tmp 14) 42 9 rfl (O + 1) 5 i0 Try.underlying42 Try.underlying9 hi hi0 hi1 hi2 (.slice (some ⟨O + 1, 0, none⟩) 1 1) 1 _ rfl hoa TT rfl (by have := HTT.out.2; omega) (by omega) ?_
    intro v1 w1 hown hgr
    have hs1 : wa.heap.size ≤ w1.heap.size := hgr.size
    have hb1 : Below (O + 1) wa w1 := (Below.refl _ wa).grown hgr (by omega) (by simp [Value.ownBlock])
    have hp1 : Pts w1 (.slice a0 n c0) L := by
      obtain ⟨vs, h1, h2⟩ := HP.out
      have hBw : Below w.heap.size w w1 := by rw [← hO]; exact hBa.trans (hb1.mono (by omega))
      exact Pts.fresh HP.out hBw
    rw [HTT.out.1] at hown
    have hown2 : w1.ownsRow (O + 1) 5 1 v1 (1 + TT.size) (bvs (L0 :: N)) := hown
    obtain ⟨a1, c1, rfl⟩ := own_slice hown2
    have hr1 := Rd.of_own hown2
    have hl1 : (L0 :: N).length = 1 + TT.size := by have := hr1.1; simpa using this
    have hk1 := hka.below hb1 (by omega)
    have hB1 : Below O w w1 := hBa.trans (hb1.mono (by omega))
    have HR1 := Lib.hid hr1
    have HP1 := Lib.hid hp1
    have HK1 := Lib.hid hk1
    have HB1 := Lib.hid hB1
    have HL1 := Lib.hid hl1
    have hz1 : O + 1 ≤ w1.heap.size := by omega
    have HO := Lib.hid hO
    clear hown hown2 hgr hb1 hr1 hp1 hk1 hB1 hl1 hka hBa hpa hok hob hoz hza hba hoa hO
    obtain ⟨K, hK⟩ : ∃ K, K = 1 + TT.size := ⟨_, rfl⟩
    rw [← hK] at HR1 HL1 ⊢
    have HK := Lib.hid hK
    clear hK
    go_wp2_with (at_builtin; apply Stop.mk)
    refine Stop.go ?_
    obtain ⟨wb, hwb, hzb, hbb, hob⟩ : ∃ wb, wb = w1.alloc (.cells #[.slice a1 K c1] 42) ∧ wb.heap.size = w1.heap.size + 1 ∧ Below w1.heap.size w1 wb ∧ wb.ownsRow (O + 1) 42 1 (.slice (some ⟨w1.heap.size, 0, none⟩) 1 1) 1 [.slice a1 K c1] :=
      ⟨_, rfl, Array.size_push _, (Below.refl _ w1).alloc (Nat.le_refl _) _, own_one w1 _ _ _ hz1⟩
    change wpList _ _ _ _ _ (w1.alloc (.cells #[.slice a1 K c1] 42))
    rw [← hwb]
    clear hwb
    obtain ⟨vs, hvr0, hvx⟩ := HP.out
    have hBw1 : Below w.heap.size w w1 := by rw [← HO.out]; exact HB1.out
    have hvr := (hvr0.fresh hBw1).fresh hbb
    have hone := Pts.one_cell hvr0 rfl hvx
    refine wpList_append_rd _ rfl (.tmp 16) (.tmp 17) 122 rfl (O + 1) 42 j0 (.slice none 0 0) 1 24 Try.underlying122 hj hj0 hj1 hj2 rfl (by decide) (.slice (some ⟨w1.heap.size, 0, none⟩) 1 1) 1 _ rfl hob (.slice a0 n c0) n vs rfl (by rw [← HN.out] at hvr; exact hvr) hone (by unfold maxLen; have := HLL.out; omega) (by have := HLL.out; omega) (by omega) ?_
    intro v2 w2 hown2 hgr2 _ hgrew
    have hb2 : Below w1.heap.size w1 w2 := Below.grown hbb hgr2 (by omega) (by simp [Value.ownBlock])
    have hBw2 : Below w.heap.size w w2 := hBw1.trans (hb2.mono hBw1.size)
    have hp2 : Pts w2 v2 ((L0 :: N) :: L) := by
      have h1 := Rd.of_own hown2
      have hr2 := HR1.out.fresh hb2
      have h5 : ((L0 :: N) :: L).length = 1 + n := by rw [List.length_cons, HN.out]; omega
      refine ⟨[.slice a1 K c1] ++ vs, by rw [h5]; exact h1, fun i x hx => ?_⟩
      rcases i with _ | i
      · simp only [List.getElem?_cons_zero, Option.some.injEq] at hx
        subst hx
        refine ⟨_, rfl, ?_⟩
        rw [HL1.out]
        exact hr2
      · rw [List.getElem?_cons_succ] at hx
        obtain ⟨u, hu, hru⟩ := hvx i x hx
        exact ⟨u, by simpa using hu, hru.fresh hBw2⟩
    have hk2 := HK1.out.below (hb2.mono hz1) (by omega)
    have hB2 : Below O w w2 := HB1.out.trans (hb2.mono (by omega))
    obtain ⟨a2, c2, rfl⟩ := hp2.slice
    have HP2 := Lib.hid hp2
    have HK2 := Lib.hid hk2
    have HB2 := Lib.hid hB2
    clear hvr0 hvx hBw1 hvr hone hown2 hgr2 hgrew hb2 hBw2 hp2 hk2 hB2 hob hzb hbb
    go_wp2_with fail
    refine (HCS.out _ _ HP2.out).mono ?_
    rintro e w3 ⟨rfl, hb3⟩
    have hk3 := HK2.out.fresh hb3
    have hB3 : Below O w w3 := HB2.out.trans (hb3.mono (by have := HB2.out.size; have := HO.out; omega))
    have HK3 := Lib.hid hk3
    have HB3 := Lib.hid hB3
    clear hb3 hk3 hB3
    go_wp2_with (with_reducible refine stopStore 24 ?_)
    refine Stop.go ?_
    refine wpList_store_var rfl 24 (.tmp 4) (.tmp 19) rfl O _ rfl _ (bvs Z) rfl HK3.out (by simp [HZ.out.2]) (bvs_one _) (by rw [bvs_length, HZ.out.2]; exact infoHash) ?_
    intro w4 hb4 ho4
    have BZ := Below.only HB3.out ho4 (Nat.le_refl _)
    rw [HO.out] at BZ
    have HBZ := Lib.hid hb4
    have HBL := Lib.hid BZ
    clear hb4 ho4 BZ
    go_wp2
    exact bodyPost_ret (results_cell1 rfl _ _ O _ _ _ _ rfl HBZ.out Try.underlying24 rfl (by simp [HZ.out.2, infoHash])) rfl ⟨by rw [HZ.out.1], HBL.out⟩

set_option maxRecDepth 100000 in
theorem rtag_any (w : World) (v : Value) (s m : List UInt8) (hr : Rd w 1 v m.length (bvs m)) (hm : m.length ≤ 10000000) (hs : s.length ≤ 1000000) :
    Calls Try.prog 54 #[.string ⟨s.toArray⟩, v] w fun e w' => e = .returned (.agg (bvs (shaB (textB s m))).toArray) ∧ Below w.heap.size w w' := by
  have C1 := fun w0 hr0 => text_any w0 v s m hr0 (by omega) hs
  obtain ⟨X, hX⟩ : ∃ X, X = textB s m := ⟨_, rfl⟩
  rw [← hX] at C1 ⊢
  have hXl : X.length ≤ 20000000 := by rw [hX]; simp only [textB, List.length_cons, List.length_append, List.length_take]; omega
  obtain ⟨Z, hZ⟩ : ∃ Z, Z = shaB X := ⟨_, rfl⟩
  have hZl : Z.length = 32 := by rw [hZ]; exact shaB_length _
  have C2 : ∀ (w0 : World) (v0 : Value), Rd w0 1 v0 X.length (bvs X) → Calls Try.prog 32 #[v0] w0 fun e w' => e = .returned (.agg (bvs Z).toArray) ∧ Below w0.heap.size w0 w' := by
    intro w0 v0 h0
    have h1 := rsum_any w0 v0 X h0 (by omega)
    rw [← hZ] at h1
    exact h1
  obtain ⟨a0, c0, rfl⟩ := hr.slice
  have HR := Lib.hid hr
  have HC1 := Lib.hid C1
  have HC2 := Lib.hid C2
  have HZ := Lib.hid (And.intro hZ hZl)
  clear hr C1 C2 hZ hZl hX hXl
  generalize (⟨s.toArray⟩ : ByteArray) = T at *
  go_enter Try.func54, Try.ntmps54
  go_wp2_with fail
  obtain ⟨wo, hwo, hok, hob, hoz⟩ := alloc_cb w 24 (bvs (List.replicate 32 0))
  change Calls _ _ _ (w.alloc (.cells (bvs (List.replicate 32 0)).toArray 24)) _
  rw [← hwo]
  clear hwo
  refine (HC1.out wo (HR.out.fresh hob)).mono ?_
  rintro e w1 ⟨v', rfl, hr1, hb1⟩
  have hk1 := hok.fresh hb1
  have hB1 : Below w.heap.size w w1 := hob.trans (hb1.mono hob.size)
  obtain ⟨a1, c1, rfl⟩ := hr1.slice
  have HR1 := Lib.hid hr1
  have HK1 := Lib.hid hk1
  have HB1 := Lib.hid hB1
  clear hr1 hk1 hB1 hb1 hok hob hoz
  go_wp2_with fail
  refine (HC2.out w1 _ HR1.out).mono ?_
  rintro e w2 ⟨rfl, hb2⟩
  have HK2 := Lib.hid (HK1.out.fresh hb2)
  have HB2 := Lib.hid (HB1.out.trans (hb2.mono HB1.out.size))
  clear hb2 HK1 HB1 HR1
  go_wp2_with (with_reducible refine stopStore 24 ?_)
  refine Stop.go ?_
  refine wpList_store_var rfl 24 (.tmp 4) (.tmp 8) rfl w.heap.size _ rfl _ (bvs Z) rfl HK2.out (by simp [HZ.out.2]) (bvs_one _) (by rw [bvs_length, HZ.out.2]; exact infoHash) ?_
  intro w4 hb4 ho4
  have BZ := Below.only HB2.out ho4 (Nat.le_refl _)
  have HBZ := Lib.hid hb4
  have HBL := Lib.hid BZ
  clear hb4 ho4 BZ
  go_wp2
  exact bodyPost_ret (results_cell1 rfl _ _ w.heap.size _ _ _ _ rfl HBZ.out Try.underlying24 rfl (by simp [HZ.out.2, infoHash])) rfl ⟨by rw [HZ.out.1], HBL.out⟩
end Go.Proofs.Ytkbahhnjoidhcaa
