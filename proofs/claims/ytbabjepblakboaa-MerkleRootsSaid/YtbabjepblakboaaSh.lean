/- The hasher: bytes are added. -/
import Derived.Test.YtbabjepblakboaaSb
import Derived.Test.YtbabjepblakboaaSp
import Derived.Test.YtbabjepblakboaaSv
import Derived.Test.YtbabjepblakboaaPlan
namespace Go.Proofs.Ytbabjepblakboaa
set_option linter.unusedVariables false
set_option linter.unusedSimpArgs false
open Go.RowKit Go.Lib

/-- The hasher's cells. -/
def hcells (ks : List W32) (s : St) (lv : Value) (n : Nat) : List Value := wds ks ++ wds s.l ++ [lv, .int .u64 (n : Int)]

theorem hcells_length (ks : List W32) (hk : ks.length = 64) (s : St) (lv : Value) (n : Nat) : (hcells ks s lv n).length = 74 := by
  simp [hcells, hk, St.l]

theorem hcells_k (ks : List W32) (hk : ks.length = 64) (s : St) (lv : Value) (n : Nat) : (hcells ks s lv n).take 64 = wds ks := by
  unfold hcells
  rw [List.append_assoc, List.take_append_of_le_length (by simp [hk]), List.take_of_length_le (by simp [hk])]

theorem hcells_s (ks : List W32) (hk : ks.length = 64) (s : St) (lv : Value) (n : Nat) (j : Nat) (hj : j < 8) : (hcells ks s lv n)[64 + j]? = (wds s.l)[j]? := by
  unfold hcells
  rw [List.append_assoc, List.getElem?_append_right (by simp [hk]), List.getElem?_append_left (by simp [hk, St.l]; omega)]
  simp [hk]

theorem hcells_l (ks : List W32) (hk : ks.length = 64) (s : St) (lv : Value) (n : Nat) : (hcells ks s lv n)[72]? = some lv := by
  unfold hcells
  rw [List.getElem?_append_right (by simp [hk, St.l])]
  simp [hk, St.l]

theorem hcells_n (ks : List W32) (hk : ks.length = 64) (s : St) (lv : Value) (n : Nat) : (hcells ks s lv n)[73]? = some (.int .u64 (n : Int)) := by
  unfold hcells
  rw [List.getElem?_append_right (by simp [hk, St.l])]
  simp [hk, St.l]

theorem hcells_setN (ks : List W32) (hk : ks.length = 64) (s : St) (lv : Value) (n m : Nat) : (hcells ks s lv n).set 73 (.int .u64 (m : Int)) = hcells ks s lv m := by
  unfold hcells
  rw [List.set_append_right _ _ (by simp [hk, St.l])]
  simp [hk, St.l]

theorem hcells_setL (ks : List W32) (hk : ks.length = 64) (s : St) (lv lv' : Value) (n : Nat) : (hcells ks s lv n).set 72 lv' = hcells ks s lv' n := by
  unfold hcells
  rw [List.set_append_right _ _ (by simp [hk, St.l])]
  simp [hk, St.l]

theorem hcells_setS (ks : List W32) (hk : ks.length = 64) (s s' : St) (lv : Value) (n : Nat) : (hcells ks s lv n).take 64 ++ wds s'.l ++ (hcells ks s lv n).drop (64 + (wds s'.l).length) = hcells ks s' lv n := by
  rw [hcells_k ks hk]
  unfold hcells
  congr 1
  rw [List.drop_append_of_le_length (by simp [hk, St.l])]
  rw [List.drop_eq_nil_of_le (by simp [hk, St.l])]
  rfl

theorem hcells_loadK {w : World} {T : TypeId} {H : Nat} {ks : List W32} {s : St} {lv : Value} {n : Nat} (h : CB w T H (hcells ks s lv n)) (hk : ks.length = 64) : ∀ j u, (wds ks)[j]? = some u → w.cell? ((⟨H, 0, none⟩ : Addr).add j) = some u := by
  intro j u hj
  rw [add_at, Nat.zero_add]
  refine h.cell j u ?_
  unfold hcells
  have hlt := (List.getElem?_eq_some_iff.1 hj).1
  rw [List.append_assoc, List.getElem?_append_left hlt]
  exact hj

theorem hcells_loadS {w : World} {T : TypeId} {H : Nat} {ks : List W32} {s : St} {lv : Value} {n : Nat} (h : CB w T H (hcells ks s lv n)) (hk : ks.length = 64) : ∀ j u, (wds s.l)[j]? = some u → w.cell? ((⟨H, 64, none⟩ : Addr).add j) = some u := by
  intro j u hj
  rw [add_at]
  refine h.cell (64 + j) u ?_
  have hlt := (List.getElem?_eq_some_iff.1 hj).1
  rw [hcells_s ks hk s lv n j (by simpa [St.l] using hlt)]
  exact hj

def leftLen (H : Nat) (w : World) : Nat := match w.cell? ⟨H, 72, none⟩ with
  | some (.slice _ n _) => n
  | _ => 0

theorem leftLen_of {H : Nat} {w : World} {a : Option Addr} {n c : Nat} (h : w.cell? ⟨H, 72, none⟩ = some (.slice a n c)) : leftLen H w = n := by
  unfold leftLen
  rw [h]

/-- What a region may count on: the constants, and what is left. -/
def HS (T : TypeId) (ks : List W32) (lv : Value) (n H : Nat) (w : World) : Prop := ∃ s : St, CB w T H (hcells ks s lv n)

/-- The world but for the hasher's block and new ones. -/
structure Fh (H base : Nat) (w w' : World) : Prop where
  os : w'.os = w.os
  tape : w'.tape = w.tape
  output : w'.output = w.output
  size : w.heap.size ≤ w'.heap.size
  block : ∀ k, k < base → k ≠ H → w'.heap[k]? = w.heap[k]?

theorem Fh.refl (H base : Nat) (w : World) : Fh H base w w := ⟨rfl, rfl, rfl, Nat.le_refl _, fun _ _ _ => rfl⟩
theorem Fh.trans {H base : Nat} {u v w : World} (h : Fh H base u v) (g : Fh H base v w) : Fh H base u w :=
  ⟨g.os.trans h.os, g.tape.trans h.tape, g.output.trans h.output, Nat.le_trans h.size g.size, fun k hk hne => (g.block k hk hne).trans (h.block k hk hne)⟩
theorem Fh.below {H base : Nat} {v w : World} (g : Below base v w) : Fh H base v w :=
  ⟨g.os, g.tape, g.output, g.size, fun k hk _ => g.block k hk⟩
theorem Fh.set {H base : Nat} (w : World) (o : Nat) (v : Value) : Fh H base w (w.setCell ⟨H, o, none⟩ v) :=
  have b : Below H w (w.setCell ⟨H, o, none⟩ v) := (Below.refl H w).setCell (Nat.le_refl _) v
  ⟨b.os, b.tape, b.output, b.size, fun k hk hne => heap_setCell_other _ _ _ _ hne⟩
theorem Fh.drew {H base : Nat} {u w : World} (h : Fh H base u w) : Fh H base u w.drew := ⟨h.os, h.tape, h.output, h.size, h.block⟩

theorem Rd.setCellE {w : World} {v : Value} {n : Nat} {l : List UInt8} (h : Rd w 1 v n (bvs l)) {a : Addr} (ha : l ≠ [] → v.ownBlock ≠ some a.block) (u : Value) : Rd (w.setCell a u) 1 v n (bvs l) := by
  by_cases hl : l = []
  · subst hl
    refine ⟨h.1, ?_⟩
    rcases h.2 with h2 | ⟨ad, c, hv, h3, h4, _⟩
    · exact .inl h2
    · exact .inr ⟨ad, c, hv, h3, h4, fun j x hx => by simp [bvs] at hx⟩
  · exact h.setCell (ha hl) u

set_option maxRecDepth 100000 in
set_option maxHeartbeats 1600000 in
theorem add_any (w : World) (H base : Nat) (hH : H < base) (hbase : base ≤ w.heap.size) (m : List UInt8) (lv : Value) (hc : CB w 216 H (hcells KS (pressN (m.length / 64) S0 m) lv m.length)) (hv : Vw w base lv (m.drop (64 * (m.length / 64))))
    (b : Value) (l : List UInt8) (hr : Rd w 1 b l.length (bvs l)) (hbH : l ≠ [] → b.ownBlock ≠ some H) (hlen : m.length + l.length ≤ 1000000000) :
    Calls Try.prog 160 #[.pointer (some ⟨H, 0, none⟩), b] w fun e w' => e = .returned (.tuple #[]) ∧
      (∃ lv', CB w' 216 H (hcells KS (pressN ((m ++ l).length / 64) S0 (m ++ l)) lv' (m ++ l).length) ∧ Vw w' base lv' ((m ++ l).drop (64 * ((m ++ l).length / 64)))) ∧ Fh H base w w' := by
  obtain ⟨i0, hi, hz0, hz1, hz2⟩ := info_parts infoU8
  obtain ⟨ks, hks⟩ : ∃ k, k = KS := ⟨_, rfl⟩
  have hkl : ks.length = 64 := by rw [hks]; rfl
  rw [← hks] at hc ⊢
  have HKS := Lib.hid hks
  clear hks
  obtain ⟨q, hq⟩ : ∃ q, q = m.length / 64 := ⟨_, rfl⟩
  obtain ⟨n, hn⟩ : ∃ n, n = m.length := ⟨_, rfl⟩
  obtain ⟨k, hk⟩ : ∃ k, k = l.length := ⟨_, rfl⟩
  obtain ⟨s, hs⟩ : ∃ s, s = pressN (m.length / 64) S0 m := ⟨_, rfl⟩
  obtain ⟨b0, b1, rfl⟩ := hr.slice
  obtain ⟨c0, c1, rfl⟩ := hv.slice
  obtain ⟨D, hD⟩ : ∃ D, D = m.drop (64 * (m.length / 64)) := ⟨_, rfl⟩
  rw [← hD] at hv hc
  obtain ⟨r, hr0⟩ : ∃ r, r = D.length := ⟨_, rfl⟩
  rw [← hr0] at hv hc
  rw [← hk] at hr hlen hbH ⊢
  rw [← hs, ← hn] at hc
  have fn := hc.cell 73 _ (hcells_n ks hkl s _ n)
  have ffn := hc.free 73
  have fl := hc.cell 72 _ (hcells_l ks hkl s _ n)
  have ffl := hc.free 72
  obtain ⟨N1, hN1⟩ : ∃ N1, N1 = n + k := ⟨_, rfl⟩
  have gk : IntKind.u64.wrap (k : Int) = (k : Int) := by rw [IntKind.wrap_u64]; omega
  have gN : IntKind.u64.wrap ((n : Int) + (k : Int)) = (N1 : Int) := by rw [IntKind.wrap_u64]; omega
  have HN1 := Lib.hid hN1
  have HLEN := Lib.hid hlen
  have HC0 := Lib.hid hc
  have HR := Lib.hid hr
  have HV := Lib.hid hv
  have HBH := Lib.hid hbH
  have EQ := Lib.hid (And.intro hq (And.intro hn (And.intro hk hs)))
  have EQ2 := Lib.hid (And.intro hD hr0)
  clear hc hr hv hbH hq hn hk hs hN1 hlen hD hr0
  go_enter Try.func160, Try.ntmps160
  go_wp2_with (at_builtin; apply Stop.mk)
  refine Stop.go ?_
  have ho1 : Only H w (w.setCell ⟨H, 73, none⟩ (.int .u64 (N1 : Int))) := Only.setCell _ _ _ _
  have hc1 : CB (w.setCell ⟨H, 73, none⟩ (.int .u64 (N1 : Int))) 216 H (hcells ks s (.slice c0 r c1) N1) := by
    have h1 := HC0.out.set 73 (.int .u64 (N1 : Int))
    rw [hcells_setN ks hkl] at h1
    exact h1
  have hv1 := HV.out.only ho1 hH
  have hr1 := HR.out.setCellE (a := ⟨H, 73, none⟩) HBH.out (.int .u64 (N1 : Int))
  have hs1 : base ≤ (w.setCell ⟨H, 73, none⟩ (.int .u64 (N1 : Int))).heap.size := by rw [ho1.size]; exact hbase
  have hw1 : Fh H base w (w.setCell ⟨H, 73, none⟩ (.int .u64 (N1 : Int))) := Fh.set _ _ _
  obtain ⟨w1, hw1e⟩ : ∃ v, v = w.setCell ⟨H, 73, none⟩ (.int .u64 (N1 : Int)) := ⟨_, rfl⟩
  rw [← hw1e] at hc1 hv1 hr1 hs1 hw1 ⊢
  clear hw1e ho1 fn ffn fl ffl
  rw [EQ.out.2.2.1] at hr1
  refine wpList_append_vw _ rfl (.tmp 18) (.tmp 19) 42 rfl base 5 i0 Try.underlying42 hi hz0 hz1 hz2 (.slice c0 r c1) D rfl hv1 (.slice b0 k b1) l rfl (by rw [EQ.out.2.2.1]; exact hr1) ?_ hs1 ?_
  · have h1 := EQ2.out.1
    have h2 := HLEN.out
    have h3 := EQ.out.2.2.1
    rw [h1]; simp; omega
  intro lv2 w2 hv2 hb2
  obtain ⟨M, hM⟩ : ∃ M, M = m ++ l := ⟨_, rfl⟩
  have hDM : D ++ l = M.drop (64 * q) := by
    rw [hM, List.drop_append_of_le_length (by rw [EQ.out.1]; omega), EQ2.out.1, ← EQ.out.1]
  have hMl : M.length = N1 := by rw [hM, HN1.out, List.length_append, EQ.out.2.1, EQ.out.2.2.1]
  have hsM : s = pressN q S0 M := by rw [hM, EQ.out.2.2.2, EQ.out.1, pressN_append _ _ _ _ (by omega)]
  have hq64 : 64 * q ≤ N1 := by rw [HN1.out, EQ.out.1, EQ.out.2.1]; omega
  rw [hDM] at hv2
  obtain ⟨d0, d1, hlv2⟩ := hv2.slice
  obtain ⟨R2, hR2⟩ : ∃ R2, R2 = (M.drop (64 * q)).length := ⟨_, rfl⟩
  rw [← hR2] at hlv2
  subst hlv2
  have HR2 := Lib.hid hR2; clear hR2
  have hc2 := hc1.below hb2 hH
  have hw2 : Fh H base w w2 := hw1.trans (Fh.below hb2)
  have fl2 := hc2.cell 72 _ (hcells_l ks hkl s _ N1)
  have ff2 := hc2.free 72
  have ho3 : Only H w2 (w2.setCell ⟨H, 72, none⟩ (.slice d0 R2 d1)) := Only.setCell _ _ _ _
  have hc3 : CB (w2.setCell ⟨H, 72, none⟩ (.slice d0 R2 d1)) 216 H (hcells ks (pressN q S0 M) (.slice d0 R2 d1) N1) := by
    have h1 := hc2.set 72 (.slice d0 R2 d1)
    rw [hcells_setL ks hkl, hsM] at h1
    exact h1
  have hv3 := hv2.only ho3 hH
  have hw3 : Fh H base w (w2.setCell ⟨H, 72, none⟩ (.slice d0 R2 d1)) := hw2.trans (Fh.set _ _ _)
  have hs3 : base ≤ (w2.setCell ⟨H, 72, none⟩ (.slice d0 R2 d1)).heap.size := by rw [ho3.size]; exact Nat.le_trans hs1 hb2.size
  have HM := Lib.hid hM
  have HMl := Lib.hid hMl
  have HC3 := Lib.hid hc3
  have HV3 := Lib.hid hv3
  have HW3 := Lib.hid hw3
  have HS3 := Lib.hid hs3
  have HQ := Lib.hid hq64
  clear hM hDM hMl hsM hq64 hv2 hc2 hw2 ho3 hc3 hv3 hw3 hs3 hc1 hv1 hr1 hs1 hw1 hb2
  go_wp2
  go_loopw [23] (fun v23 wr => ∃ (j : Nat) (lv : Value), 64 * j ≤ N1 ∧ CB wr 216 H (hcells ks (pressN j S0 M) lv N1) ∧ Vw wr base lv (M.drop (64 * j)) ∧ Fh H base w wr)
    (fun _ wr => leftLen H wr)
  case atStart => exact ⟨q, _, HQ.out, HC3.out, HV3.out, HW3.out⟩
  case round =>
    obtain ⟨j, lv, hj, h1, h2, h3⟩ := hrel
    obtain ⟨a0, a1, rfl⟩ := h2.slice
    obtain ⟨R, hR⟩ : ∃ R, R = (M.drop (64 * j)).length := ⟨_, rfl⟩
    have hRN : R = N1 - 64 * j := by rw [hR, List.length_drop, HMl.out]
    obtain ⟨st, hst⟩ : ∃ st, st = pressN j S0 M := ⟨_, rfl⟩
    obtain ⟨D3, hD3⟩ : ∃ D3, D3 = M.drop (64 * j) := ⟨_, rfl⟩
    rw [← hD3] at h2 hR h1
    rw [← hR, ← hst] at h1
    have fl := h1.cell 72 _ (hcells_l ks hkl st _ N1)
    have ffl := h1.free 72
    have H1 := Lib.hid h1
    have H2 := Lib.hid h2
    have H3 := Lib.hid h3
    have HR3 := Lib.hid (And.intro hR (And.intro hst (And.intro hD3 (And.intro hRN hj))))
    clear h1 h2 h3 hst hD3 hRN hj HC3 HV3 HW3 HS3 HQ
    by_cases hlt : 64 ≤ R
    · rcases H2.out with ⟨_, hn0⟩ | ⟨g, off, c, he, hbg, hRc, hcm, _, _⟩
      · rw [hn0] at hR; simp at hR; omega
      simp only [Value.slice.injEq, true_and] at he
      obtain ⟨rfl, rfl⟩ := he
      have hcap : (64 : Int) ≤ (a1 : Int) := by omega
      have HRR := Lib.hid hR
      have HRC := Lib.hid hRc
      have HCM := Lib.hid hcm
      clear hR hRc hcm
      have hlti : (64 : Int) ≤ (R : Int) := by omega
      have hS : HS 216 ks (.slice (some ⟨g, off, none⟩) R a1) N1 H wr.drew := ⟨st, H1.out⟩
      go_wp2_with fail
      refine pl_start 18 rfl (HS 216 ks (.slice (some ⟨g, off, none⟩) R a1) N1 H) (by kernel_rfl) ?_
      refine pl_take (i := 0) 29 rfl rfl rfl (by kernel_rfl) (by kernel_rfl) (by kernel_rfl) (by simp [Act.put]) hS ?_
      apply Exists.intro
      refine And.intro (fun w' hS' => ?_) ?_
      · clear hS'
        go_wp2
        exact ⟨trivial, rfl⟩
      refine pl_take (i := 1) 30 rfl rfl rfl (by kernel_rfl) (by kernel_rfl) (by kernel_rfl) (by simp [Act.put]) hS ?_
      apply Exists.intro
      refine And.intro (fun w' hS' => ?_) ?_
      · clear hS'
        go_wp2
        exact ⟨trivial, rfl⟩
      refine pl_take (i := 2) 31 rfl rfl rfl (by kernel_rfl) (by kernel_rfl) (by kernel_rfl) (by simp [Act.put]) hS ?_
      apply Exists.intro
      refine And.intro (fun w' hS' => ?_) ?_
      · clear hS'
        go_wp2
        exact ⟨trivial, rfl⟩
      refine pl_take (i := 3) 32 rfl rfl rfl (by kernel_rfl) (by kernel_rfl) (by kernel_rfl) (by simp [Act.put]) hS ?_
      apply Exists.intro
      refine And.intro (fun w' hS' => ?_) ?_
      · clear hS'
        go_wp2
        exact ⟨trivial, rfl⟩
      refine pl_take (i := 4) 33 rfl rfl rfl (by kernel_rfl) (by kernel_rfl) (by kernel_rfl) (by simp [Act.put]) hS ?_
      apply Exists.intro
      refine And.intro (fun w' hS' => ?_) ?_
      · obtain ⟨st', hst'⟩ := hS'
        refine wpList_load_agg rfl 201 (.tmp 32) rfl ⟨H, 0, none⟩ rfl (wds ks) _ (hcells_loadK hst' hkl) Try.underlying201 rfl (by rw [wds_length, hkl]; exact infoW64) ?_
        go_wp2
        exact ⟨trivial, rfl⟩
      refine pl_take (i := 5) 34 rfl rfl rfl (by kernel_rfl) (by kernel_rfl) (by kernel_rfl) (by simp [Act.put]) hS ?_
      apply Exists.intro
      refine And.intro (fun w' hS' => ?_) ?_
      · clear hS'
        go_wp2
        exact ⟨trivial, rfl⟩
      refine pl_take (i := 6) 35 rfl rfl rfl (by kernel_rfl) (by kernel_rfl) (by kernel_rfl) (by simp [Act.put]) hS ?_
      apply Exists.intro
      refine And.intro (fun w' hS' => ?_) ?_
      · clear hS'
        go_wp2
        exact ⟨trivial, rfl⟩
      refine pl_take (i := 7) 36 rfl rfl rfl (by kernel_rfl) (by kernel_rfl) (by kernel_rfl) (by simp [Act.put]) hS ?_
      apply Exists.intro
      refine And.intro (fun w' hS' => ?_) ?_
      · clear hS'
        go_wp2
        exact ⟨trivial, rfl⟩
      refine pl_take (i := 9) 38 rfl rfl rfl (by kernel_rfl) (by kernel_rfl) (by kernel_rfl) (by simp [Act.put]) hS ?_
      apply Exists.intro
      refine And.intro (fun w' hS' => ?_) ?_
      · clear hS'
        go_wp2
        exact ⟨trivial, rfl⟩
      refine pl_take (i := 10) 39 rfl rfl rfl (by kernel_rfl) (by kernel_rfl) (by kernel_rfl) (by simp [Act.put]) hS ?_
      apply Exists.intro
      refine And.intro (fun w' hS' => ?_) ?_
      · clear hS'
        go_wp2
        exact ⟨trivial, rfl⟩
      refine pl_take (i := 11) 40 rfl rfl rfl (by kernel_rfl) (by kernel_rfl) (by kernel_rfl) (by simp [Act.put]) hS ?_
      apply Exists.intro
      refine And.intro (fun w' hS' => ?_) ?_
      · clear hS'
        go_wp2
        exact ⟨trivial, rfl⟩
      refine pl_take (i := 12) 41 rfl rfl rfl (by kernel_rfl) (by kernel_rfl) (by kernel_rfl) (by simp [Act.put]) hS ?_
      apply Exists.intro
      refine And.intro (fun w' hS' => ?_) ?_
      · obtain ⟨st', hst'⟩ := hS'
        have fl' := hst'.cell 72 _ (hcells_l ks hkl st' _ N1)
        clear hst'
        go_wp2
        exact ⟨trivial, rfl⟩
      refine pl_take (i := 13) 42 rfl rfl rfl (by kernel_rfl) (by kernel_rfl) (by kernel_rfl) (by simp [Act.put]) hS ?_
      apply Exists.intro
      refine And.intro (fun w' hS' => ?_) ?_
      · clear hS'
        go_wp2
        exact ⟨trivial, rfl⟩
      refine pl_heavy (i := 8) rfl (by kernel_rfl) ?_
      refine wpList_load_agg rfl 169 (.tmp 36) rfl ⟨H, 64, none⟩ rfl (wds st.l) _ (hcells_loadS H1.out hkl) Try.underlying169 rfl (by rw [wds_length]; exact infoW8) ?_
      go_wp2
      refine And.intro hS ?_
      have hl64 : (D3.take 64).length = 64 := by rw [List.length_take]; have := HRR.out; omega
      have hr64 : Rd wr.drew 1 (.slice (some ⟨g, off, none⟩) 64 a1) 64 (bvs (D3.take 64)) := by
        have h1 := H2.out.rd
        rw [← HRR.out] at h1
        have h2 := Rd.take h1 64 a1 (by omega) (by omega) (by unfold maxLen; exact HCM.out)
        exact h2
      have HR64 := Lib.hid hr64
      have HL64 := Lib.hid hl64
      clear hr64 hl64
      refine pl_heavy (i := 14) rfl (by kernel_rfl) ?_
      go_wp2_with fail
      refine (press_any wr.drew ks hkl st _ (D3.take 64) HL64.out HR64.out).mono ?_
      rintro e w4 ⟨rfl, hb4⟩
      have hb4' : Below wr.heap.size wr w4 := (Below.refl _ wr).drew.trans hb4
      have hsz : base ≤ wr.heap.size := Nat.le_trans hbase H3.out.size
      have h14 := H1.out.fresh hb4'
      have h24 := H2.out.fresh hb4'
      have h34 : Fh H base w w4 := H3.out.trans (Fh.below (hb4'.mono hsz))
      obtain ⟨st', hst'⟩ : ∃ s', s' = pressS ks st (D3.take 64) := ⟨_, rfl⟩
      rw [← hst']
      have HS' := Lib.hid hst'
      have H14 := Lib.hid h14
      have H24 := Lib.hid h24
      have H34 := Lib.hid h34
      clear hb4 hb4' h14 h24 h34 hst' hS
      have hS : HS 216 ks (.slice (some ⟨g, off, none⟩) R a1) N1 H w4 := ⟨st, H14.out⟩
      go_wp2
      refine And.intro hS ?_
      refine pl_heavy (i := 15) rfl (by kernel_rfl) ?_
      go_wp2
      refine And.intro hS ?_
      refine pl_heavy (i := 16) rfl (by kernel_rfl) ?_
      go_wp2
      refine And.intro hS ?_
      refine pl_heavy (i := 17) rfl (by kernel_rfl) ?_
      refine wpList_store_agg rfl 169 (.tmp 45) (.tmp 43) rfl H 64 216 rfl _ (wds st'.l) rfl H14.out (by simp [hcells_length ks hkl, St.l]) (wds_one _) (by rw [wds_length]; exact infoW8) ?_
      obtain ⟨w5, hw5⟩ : ∃ v, v = w4.setRow H ((hcells ks st (.slice (some ⟨g, off, none⟩) R a1) N1).toArray.toList.take 64 ++ wds st'.l ++ (hcells ks st (.slice (some ⟨g, off, none⟩) R a1) N1).toArray.toList.drop (64 + (wds st'.l).length)).toArray := ⟨_, rfl⟩
      rw [← hw5]
      have ho5 : Only H w4 w5 := by rw [hw5]; exact ⟨rfl, rfl, rfl, by simp, fun k hk => setRow_other _ _ _ _ hk⟩
      have hc5 : CB w5 216 H (hcells ks st' (.slice (some ⟨g, off, none⟩) R a1) N1) := by
        have h9 : (hcells ks st (.slice (some ⟨g, off, none⟩) R a1) N1).toArray.toList = hcells ks st (.slice (some ⟨g, off, none⟩) R a1) N1 := rfl
        rw [h9, hcells_setS ks hkl] at hw5
        unfold CB
        rw [hw5, setRow_heap _ _ _ _ _ _ H14.out]
      have hv5 := H24.out.only ho5 hH
      have h35 : Fh H base w w5 := H34.out.trans ⟨ho5.os, ho5.tape, ho5.output, by rw [ho5.size]; exact Nat.le_refl _, fun k _ hk => ho5.block k hk⟩
      have H15 := Lib.hid hc5
      have H25 := Lib.hid hv5
      have H35 := Lib.hid h35
      have hS5 : HS 216 ks (.slice (some ⟨g, off, none⟩) R a1) N1 H w5 := ⟨st', hc5⟩
      clear hw5 ho5 hc5 hv5 h35 H14 H24 H34 hS
      go_wp2
      refine And.intro hS5 ?_
      refine pl_done (by kernel_rfl) ?_
      have fl5 := H15.out.cell 72 _ (hcells_l ks hkl st' _ N1)
      have ffl5 := H15.out.free 72
      go_wp2
      go_roundw
      case rel =>
        have hjN : 64 * (j + 1) ≤ N1 := by have := HR3.out.2.2.2.1; have := HR3.out.2.2.2.2; omega
        have hdr : M.drop (64 * (j + 1)) = D3.drop 64 := by rw [HR3.out.2.2.1, List.drop_drop]; rfl
        have hst : st' = pressN (j + 1) S0 M := by
          rw [HS'.out, pressN_snoc, HR3.out.2.1, HR3.out.2.2.1, HKS.out]
        have hlv : Vw w5 base (.slice (if a1 = 64 then some ⟨g, off, none⟩ else some ⟨g, off + 64, none⟩) (R - 64) (a1 - 64)) (D3.drop 64) := by
          have h1 := H25.out
          rw [← HRR.out] at h1
          split
          · rename_i h64
            have hR64 : R = 64 := by have := HRC.out; have := HRR.out; omega
            have hd0 : D3.drop 64 = [] := List.drop_eq_nil_of_le (by have := HRR.out; omega)
            rw [hd0, hR64, h64]
            exact .inr ⟨g, off, 0, rfl, hbg, by simp, by unfold maxLen; omega, fun j x hx => by simp at hx, fun j hj => by omega⟩
          · have h3 := h1
            rw [HRR.out] at h3
            have h2 := Vw.drop h3 64 (by rw [← HRR.out]; exact hlt)
            rw [← HRR.out] at h2
            exact h2
        have hc6 := H15.out.set 72 (.slice (if a1 = 64 then some ⟨g, off, none⟩ else some ⟨g, off + 64, none⟩) (R - 64) (a1 - 64))
        rw [hcells_setL ks hkl, hst] at hc6
        refine ⟨j + 1, _, hjN, hc6, ?_, H35.out.trans (Fh.set _ _ _)⟩
        rw [hdr]
        exact hlv.only (Only.setCell _ _ _ _) hH
      case measure =>
        have e1 : leftLen H wr = R := leftLen_of fl
        have hcx := H15.out.set 72 (.slice (if a1 = 64 then some ⟨g, off, none⟩ else some ⟨g, off + 64, none⟩) (R - 64) (a1 - 64))
        rw [hcells_setL ks hkl] at hcx
        have e2 := leftLen_of (hcx.cell 72 _ (hcells_l ks hkl _ _ _))
        rw [e1, e2]
        omega
    · have HRR := Lib.hid hR
      clear hR
      go_wp2
      go_end0
      refine ⟨rfl, ?_, H3.out⟩
      have hmn : (m ++ l).length = N1 := by rw [← HM.out, HMl.out]
      have hjj : N1 / 64 = j := by have := HR3.out.2.2.2.1; have := HR3.out.2.2.2.2; omega
      rw [hmn, hjj, ← HM.out]
      have h1 := H1.out
      have h2 := H2.out
      rw [HR3.out.2.1] at h1
      rw [HR3.out.2.2.1] at h2
      refine ⟨_, h1, ?_⟩
      rw [HR3.out.1, HR3.out.2.2.1]
      exact h2

/-- The hasher at block H has seen the bytes m. -/
def Hd (w : World) (H base : Nat) (m : List UInt8) : Prop :=
  ∃ lv, CB w 216 H (hcells KS (pressN (m.length / 64) S0 m) lv m.length) ∧ Vw w base lv (m.drop (64 * (m.length / 64)))

theorem KS_length : KS.length = 64 := rfl

theorem Hd.n {w : World} {H base : Nat} {m : List UInt8} (h : Hd w H base m) : w.cell? ⟨H, 73, none⟩ = some (.int .u64 (m.length : Int)) := by
  obtain ⟨lv, h1, _⟩ := h
  exact h1.cell 73 _ (hcells_n KS KS_length _ _ _)

theorem Hd.load {w : World} {H base : Nat} {m : List UInt8} (h : Hd w H base m) : ∀ j u, (wds (pressN (m.length / 64) S0 m).l)[j]? = some u → w.cell? ((⟨H, 64, none⟩ : Addr).add j) = some u := by
  obtain ⟨lv, h1, _⟩ := h
  exact hcells_loadS h1 KS_length

theorem Hd.fresh {w w' : World} {H base : Nat} {m : List UInt8} (h : Hd w H base m) (hb : Below w.heap.size w w') : Hd w' H base m := by
  obtain ⟨lv, h1, h2⟩ := h
  exact ⟨lv, h1.fresh hb, h2.fresh hb⟩

theorem Hd.only {w w' : World} {H base g : Nat} {m : List UInt8} (h : Hd w H base m) (ho : Only g w w') (hne : H ≠ g) (hg : g < base ∨ w.heap.size ≤ g) : Hd w' H base m := by
  obtain ⟨lv, h1, h2⟩ := h
  rcases hg with hg | hg
  · exact ⟨lv, h1.only ho hne, h2.only ho hg⟩
  · have hb : Below w.heap.size w w' := ⟨ho.os, ho.tape, ho.output, by rw [ho.size]; exact Nat.le_refl _, fun k hk => ho.block k (by omega)⟩
    exact ⟨lv, h1.fresh hb, h2.fresh hb⟩

theorem hadd_any (w : World) (H base : Nat) (hH : H < base) (hbase : base ≤ w.heap.size) (m : List UInt8) (hd : Hd w H base m)
    (b : Value) (l : List UInt8) (hr : Rd w 1 b l.length (bvs l)) (hbH : l ≠ [] → b.ownBlock ≠ some H) (hlen : m.length + l.length ≤ 1000000000) :
    Calls Try.prog 160 #[.pointer (some ⟨H, 0, none⟩), b] w fun e w' => e = .returned (.tuple #[]) ∧ Hd w' H base (m ++ l) ∧ Fh H base w w' := by
  obtain ⟨lv, h1, h2⟩ := hd
  exact add_any w H base hH hbase m lv h1 h2 b l hr hbH hlen
end Go.Proofs.Ytbabjepblakboaa
