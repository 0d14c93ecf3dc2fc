/- Disks: the small functions, the steps: the walks. -/
import Derived.Test.YtbbbgpdhdlknjaaDb
import Derived.WalkMore
import Derived.Great.Walk
import Derived.Test.YtbbbgpdhdlknjaaProg
namespace Go.Proofs.Ytbbbgpdhdlknjaa
set_option linter.unusedVariables false
set_option linter.unusedSimpArgs false
open Go.RowKit

theorem infoU8 : (Try.prog.info? 5).map (fun i => (i.zero, i.size, i.bytes)) = some (some (.int .u8 0), 1, 1) := by kernel_rfl
theorem infoSl8 : (Try.prog.info? 29).map (·.size) = some 1 := by kernel_rfl
theorem infoInt : (Try.prog.info? 3).map (·.size) = some 1 := by kernel_rfl
theorem infoBool : (Try.prog.info? 4).map (·.size) = some 1 := by kernel_rfl
theorem infoPLg : (Try.prog.info? 61).map (·.size) = some 1 := by kernel_rfl
theorem infoSlS : (Try.prog.info? 63).map (·.size) = some 1 := by kernel_rfl
theorem infoStep : (Try.prog.info? 78).map (·.size) = some 3 := by kernel_rfl
theorem infoLogs : (Try.prog.info? 62).map (·.size) = some 16 := by kernel_rfl
theorem infoDisk : (Try.prog.info? 65).map (·.size) = some 21 := by kernel_rfl

/-- What a step does finds, and what it leaves. -/
structure Lay [Inhabited (Option Nat)] (w : World) (T : TypeId) (g o : Nat) (cur : List Value) (i : Nat) (v : Value) (l : Bs) : Prop where
  cb : CB w T g cur
  t1 : 3 ≠ T
  t2 : 29 ≠ T
  t3 : 5 ≠ T
  hi : i < 16
  fit : o + 16 ≤ cur.length
  at_ : cur[o + i]? = some v
  rd : RdU w v l

theorem RdU.clip [Inhabited (Option Nat)] {w : World} {a : Option Addr} {n c : Nat} {l : Bs} (h : RdU w (.slice a n c) l) : RdU w (.slice a n n) l := by
  refine ⟨⟨h.1.1, ?_⟩, fun g hg => h.2 g (by cases a <;> exact hg)⟩
  rcases h.1.2 with ⟨he, h0⟩ | ⟨ad, c', he, hnc, hcm, hcell⟩
  · simp only [Value.slice.injEq] at he
    obtain ⟨rfl, rfl, rfl⟩ := he
    exact .inl ⟨rfl, h0⟩
  · simp only [Value.slice.injEq] at he
    obtain ⟨rfl, rfl, rfl⟩ := he
    exact .inr ⟨ad, _, rfl, Nat.le_refl _, by omega, hcell⟩

theorem RdU.take [Inhabited (Option Nat)] {w : World} {a : Option Addr} {n c : Nat} {l : Bs} (h : RdU w (.slice a n c) l) {q : Nat} (hq : q ≤ n) : RdU w (.slice a q c) (l.take q) := by
  have hl : n = l.length := by
    obtain ⟨_, _, e⟩ := h.slice
    simp only [Value.slice.injEq] at e
    exact e.2.1
  have hlt : (l.take q).length = q := by rw [List.length_take]; omega
  refine ⟨⟨by rw [bvs_length, Nat.mul_one], ?_⟩, fun g hg => h.2 g (by cases a <;> exact hg)⟩
  rcases h.1.2 with ⟨he, h0⟩ | ⟨ad, c', he, hnc, hcm, hcell⟩
  · simp only [Value.slice.injEq] at he
    obtain ⟨rfl, rfl, rfl⟩ := he
    obtain rfl : q = 0 := by omega
    exact .inl ⟨rfl, hlt⟩
  · simp only [Value.slice.injEq] at he
    obtain ⟨rfl, rfl, rfl⟩ := he
    refine .inr ⟨ad, _, by rw [hlt], by rw [hlt]; omega, hcm, fun j u hj => hcell j u ?_⟩
    rw [bvs, List.map_take, List.getElem?_take] at hj
    split at hj
    · exact hj
    · cases hj

theorem grown_drew (w : World) (r : Option Nat) : w.grownBy w.drew r := grown_fresh (Below.refl _ w).drew
theorem grown_to {w w' : World} {g : Nat} (h : w.grownBy w' none) : w.grownBy w' (some g) := ⟨h.os, h.tape, h.output, h.size, fun k hk _ => h.block k hk (by simp)⟩
theorem grown_below' {w w' : World} (h : w.grownBy w' none) : Below w.heap.size w w' := Below.grown (Below.refl _ w) h (Nat.le_refl _) (by simp)

set_option maxRecDepth 100000 in
set_option maxHeartbeats 4000000 in
theorem adds1_any [Inhabited (Option Nat)] (w : World) (T : TypeId) (g o : Nat) (cur : List Value) (i : Nat) (v : Value) (l b : Bs) (g1 g2 : Nat) (u : Value) (h : Lay w T g o cur i v l) (h1 : CB w 3 g1 [.int .i64 (i : Int)]) (h2 : CB w 29 g2 [u]) (hb : RdU w u b) (hlen : l.length + b.length ≤ 100000000) (hav : Av w.heap.size) :
    Calls Try.prog 66 #[.pointer (some ⟨g, o, none⟩), .pointer (some ⟨g1, 0, none⟩), .pointer (some ⟨g2, 0, none⟩)] w fun e w' => e = .returned (.tuple #[]) ∧ ∃ v', CB w' T g (cur.set (o + i) v') ∧ RdU w' v' (l ++ b) ∧ w.grownBy w' (some g) := by
  obtain ⟨i0, hi0, hz0, hz1, hz2⟩ := info_parts infoU8
  have HU := Lib.hid (And.intro hi0 (And.intro hz0 (And.intro hz1 hz2)))
  clear hi0 hz0 hz1 hz2
  obtain ⟨a, c, rfl⟩ := h.rd.slice
  obtain ⟨n, hn⟩ : ∃ n, n = l.length := ⟨_, rfl⟩
  rw [← hn] at h
  have bi : (i : Int) < 16 := by have := h.hi; omega
  have bn : (n : Int) ≤ 9223372036854775807 := by omega
  have bc : (n : Int) ≤ (c : Int) := by
    rcases h.rd.1.2 with ⟨he, _⟩ | ⟨ad, c', he, hnc, _⟩
    · simp only [Value.slice.injEq] at he; omega
    · simp only [Value.slice.injEq] at he; omega
  have H := Lib.hid h
  have HN := Lib.hid (And.intro hn hlen)
  have AV := Lib.hid hav
  have HB := Lib.hid hb
  have hS : Hid (CB w.drew T g cur ∧ CB w.drew 3 g1 [.int .i64 (i : Int)] ∧ CB w.drew 29 g2 [u]) := Lib.hid ⟨h.cb.drew, h1.drew, h2.drew⟩
  clear h h1 h2 hb hlen hn hav
  go_enter Try.func66, Try.ntmps66
  go_wp2_with fail
  refine pf_start 25 rfl (fun w' => CB w' T g cur ∧ CB w' 3 g1 [.int .i64 (i : Int)] ∧ CB w' 29 g2 [u]) (fun i => i == 24) (by kernel_rfl) ?_
  refine pf_take (i := 0) 4 rfl rfl rfl (by kernel_rfl) (by kernel_rfl) (by kernel_rfl) (by kernel_rfl) (by kernel_rfl) (by simp [Act.put]) hS.out ?_
  apply Exists.intro
  refine And.intro (fun w' hS' => ?_) ?_
  · clear hS'
    go_wp2
    first
      | exact ⟨trivial, rfl⟩
      | exact rfl
  refine pf_take (i := 1) 5 rfl rfl rfl (by kernel_rfl) (by kernel_rfl) (by kernel_rfl) (by kernel_rfl) (by kernel_rfl) (by simp [Act.put]) hS.out ?_
  apply Exists.intro
  refine And.intro (fun w' hS' => ?_) ?_
  · have hc := hS'.2.1.cell 0 _ rfl
    clear hS'
    go_wp2
    first
      | exact ⟨trivial, rfl⟩
      | exact rfl
  refine pf_take (i := 2) 6 rfl rfl rfl (by kernel_rfl) (by kernel_rfl) (by kernel_rfl) (by kernel_rfl) (by kernel_rfl) (by simp [Act.put]) hS.out ?_
  apply Exists.intro
  refine And.intro (fun w' hS' => ?_) ?_
  · clear hS'
    go_wp2
    first
      | exact ⟨trivial, rfl⟩
      | exact rfl
  refine pf_take (i := 3) 7 rfl rfl rfl (by kernel_rfl) (by kernel_rfl) (by kernel_rfl) (by kernel_rfl) (by kernel_rfl) (by simp [Act.put]) hS.out ?_
  apply Exists.intro
  refine And.intro (fun w' hS' => ?_) ?_
  · have hc := hS'.2.1.cell 0 _ rfl
    clear hS'
    go_wp2
    first
      | exact ⟨trivial, rfl⟩
      | exact rfl
  refine pf_take (i := 4) 8 rfl rfl rfl (by kernel_rfl) (by kernel_rfl) (by kernel_rfl) (by kernel_rfl) (by kernel_rfl) (by simp [Act.put]) hS.out ?_
  apply Exists.intro
  refine And.intro (fun w' hS' => ?_) ?_
  · clear hS'
    go_wp2
    first
      | exact ⟨trivial, rfl⟩
      | exact rfl
  refine pf_take (i := 5) 9 rfl rfl rfl (by kernel_rfl) (by kernel_rfl) (by kernel_rfl) (by kernel_rfl) (by kernel_rfl) (by simp [Act.put]) hS.out ?_
  apply Exists.intro
  refine And.intro (fun w' hS' => ?_) ?_
  · clear hS'
    go_wp2
    first
      | exact ⟨trivial, rfl⟩
      | exact rfl
  refine pf_take (i := 6) 10 rfl rfl rfl (by kernel_rfl) (by kernel_rfl) (by kernel_rfl) (by kernel_rfl) (by kernel_rfl) (by simp [Act.put]) hS.out ?_
  apply Exists.intro
  refine And.intro (fun w' hS' => ?_) ?_
  · have hc := hS'.1.cell (o + i) _ H.out.at_
    clear hS'
    go_wp2
    first
      | exact ⟨trivial, rfl⟩
      | exact rfl
  refine pf_take (i := 7) 11 rfl rfl rfl (by kernel_rfl) (by kernel_rfl) (by kernel_rfl) (by kernel_rfl) (by kernel_rfl) (by simp [Act.put]) hS.out ?_
  apply Exists.intro
  refine And.intro (fun w' hS' => ?_) ?_
  · clear hS'
    go_wp2
    first
      | exact ⟨trivial, rfl⟩
      | exact rfl
  refine pf_take (i := 8) 12 rfl rfl rfl (by kernel_rfl) (by kernel_rfl) (by kernel_rfl) (by kernel_rfl) (by kernel_rfl) (by simp [Act.put]) hS.out ?_
  apply Exists.intro
  refine And.intro (fun w' hS' => ?_) ?_
  · have hc := hS'.2.1.cell 0 _ rfl
    clear hS'
    go_wp2
    first
      | exact ⟨trivial, rfl⟩
      | exact rfl
  refine pf_take (i := 9) 13 rfl rfl rfl (by kernel_rfl) (by kernel_rfl) (by kernel_rfl) (by kernel_rfl) (by kernel_rfl) (by simp [Act.put]) hS.out ?_
  apply Exists.intro
  refine And.intro (fun w' hS' => ?_) ?_
  · clear hS'
    go_wp2
    first
      | exact ⟨trivial, rfl⟩
      | exact rfl
  refine pf_take (i := 10) 14 rfl rfl rfl (by kernel_rfl) (by kernel_rfl) (by kernel_rfl) (by kernel_rfl) (by kernel_rfl) (by simp [Act.put]) hS.out ?_
  apply Exists.intro
  refine And.intro (fun w' hS' => ?_) ?_
  · clear hS'
    go_wp2
    first
      | exact ⟨trivial, rfl⟩
      | exact rfl
  refine pf_take (i := 11) 15 rfl rfl rfl (by kernel_rfl) (by kernel_rfl) (by kernel_rfl) (by kernel_rfl) (by kernel_rfl) (by simp [Act.put]) hS.out ?_
  apply Exists.intro
  refine And.intro (fun w' hS' => ?_) ?_
  · have hc := hS'.1.cell (o + i) _ H.out.at_
    clear hS'
    go_wp2
    first
      | exact ⟨trivial, rfl⟩
      | exact rfl
  refine pf_take (i := 12) 16 rfl rfl rfl (by kernel_rfl) (by kernel_rfl) (by kernel_rfl) (by kernel_rfl) (by kernel_rfl) (by simp [Act.put]) hS.out ?_
  apply Exists.intro
  refine And.intro (fun w' hS' => ?_) ?_
  · clear hS'
    go_wp2
    first
      | exact ⟨trivial, rfl⟩
      | exact rfl
  refine pf_take (i := 13) 17 rfl rfl rfl (by kernel_rfl) (by kernel_rfl) (by kernel_rfl) (by kernel_rfl) (by kernel_rfl) (by simp [Act.put]) hS.out ?_
  apply Exists.intro
  refine And.intro (fun w' hS' => ?_) ?_
  · clear hS'
    go_wp2
    first
      | exact ⟨trivial, rfl⟩
      | exact rfl
  refine pf_take (i := 14) 18 rfl rfl rfl (by kernel_rfl) (by kernel_rfl) (by kernel_rfl) (by kernel_rfl) (by kernel_rfl) (by simp [Act.put]) hS.out ?_
  apply Exists.intro
  refine And.intro (fun w' hS' => ?_) ?_
  · have hc := hS'.2.1.cell 0 _ rfl
    clear hS'
    go_wp2
    first
      | exact ⟨trivial, rfl⟩
      | exact rfl
  refine pf_take (i := 15) 19 rfl rfl rfl (by kernel_rfl) (by kernel_rfl) (by kernel_rfl) (by kernel_rfl) (by kernel_rfl) (by simp [Act.put]) hS.out ?_
  apply Exists.intro
  refine And.intro (fun w' hS' => ?_) ?_
  · clear hS'
    go_wp2
    first
      | exact ⟨trivial, rfl⟩
      | exact rfl
  refine pf_take (i := 16) 20 rfl rfl rfl (by kernel_rfl) (by kernel_rfl) (by kernel_rfl) (by kernel_rfl) (by kernel_rfl) (by simp [Act.put]) hS.out ?_
  apply Exists.intro
  refine And.intro (fun w' hS' => ?_) ?_
  · clear hS'
    go_wp2
    first
      | exact ⟨trivial, rfl⟩
      | exact rfl
  refine pf_take (i := 17) 21 rfl rfl rfl (by kernel_rfl) (by kernel_rfl) (by kernel_rfl) (by kernel_rfl) (by kernel_rfl) (by simp [Act.put]) hS.out ?_
  apply Exists.intro
  refine And.intro (fun w' hS' => ?_) ?_
  · have hc := hS'.1.cell (o + i) _ H.out.at_
    clear hS'
    go_wp2
    first
      | exact ⟨trivial, rfl⟩
      | exact rfl
  refine pf_take (i := 18) 22 rfl rfl rfl (by kernel_rfl) (by kernel_rfl) (by kernel_rfl) (by kernel_rfl) (by kernel_rfl) (by simp [Act.put]) hS.out ?_
  apply Exists.intro
  refine And.intro (fun w' hS' => ?_) ?_
  · clear hS'
    go_wp2
    first
      | exact ⟨trivial, rfl⟩
      | exact rfl
  refine pf_take (i := 19) 23 rfl rfl rfl (by kernel_rfl) (by kernel_rfl) (by kernel_rfl) (by kernel_rfl) (by kernel_rfl) (by simp [Act.put]) hS.out ?_
  apply Exists.intro
  refine And.intro (fun w' hS' => ?_) ?_
  · clear hS'
    go_wp2
    first
      | exact ⟨trivial, rfl⟩
      | exact rfl
  refine pf_take (i := 20) 24 rfl rfl rfl (by kernel_rfl) (by kernel_rfl) (by kernel_rfl) (by kernel_rfl) (by kernel_rfl) (by simp [Act.put]) hS.out ?_
  apply Exists.intro
  refine And.intro (fun w' hS' => ?_) ?_
  · have hc := hS'.2.2.cell 0 _ rfl
    clear hS'
    go_wp2
    first
      | exact ⟨trivial, rfl⟩
      | exact rfl
  refine pf_free (i := 22) 26 rfl rfl rfl (by kernel_rfl) (by kernel_rfl) (by kernel_rfl) rfl (by simp [Act.put]) (fun _ => hS.out) ?_
  apply Exists.intro
  refine And.intro (fun w' => ?_) ?_
  · go_wp2
    first
      | exact ⟨trivial, rfl⟩
      | exact rfl
  obtain ⟨wd, hwd⟩ : ∃ wd, wd = w.drew := ⟨_, rfl⟩
  have GD : Hid (w.grownBy wd (some g)) := Lib.hid (by rw [hwd]; exact grown_drew w _)
  have RA : Hid (RdU wd (.slice a n n) l) := Lib.hid (by rw [hwd]; exact (H.out.rd.clip).fresh (Below.refl _ w).drew)
  have RB : Hid (RdU wd u b) := Lib.hid (by rw [hwd]; exact HB.out.fresh (Below.refl _ w).drew)
  rw [← hwd] at hS ⊢
  clear hwd
  refine pf_heavy (i := 21) rfl (by kernel_rfl) ?_
  refine wpList_append_full _ rfl (.tmp 23) (.tmp 24) 29 rfl i0 Try.underlying29 HU.out.1 HU.out.2.1 HU.out.2.2.1 HU.out.2.2.2 a n l b rfl HN.out.1 RA.out u rfl RB.out.1 (by have := HN.out.2; omega) (AV.out.mono GD.out.size) ?_
  intro v' w7 hv' g7
  have b7 := grown_below' g7
  have hS7 : Hid (CB w7 T g cur ∧ CB w7 3 g1 [.int .i64 (i : Int)] ∧ CB w7 29 g2 [u]) := Lib.hid ⟨hS.out.1.fresh b7, hS.out.2.1.fresh b7, hS.out.2.2.fresh b7⟩
  have R7 := Lib.hid hv'
  have G7 : Hid (w.grownBy w7 (some g)) := Lib.hid (grown_trans GD.out (grown_to g7))
  clear hv' g7 b7 hS GD RA RB
  go_wp2
  refine And.intro hS7.out ?_
  refine pf_take (i := 23) 27 rfl rfl rfl (by kernel_rfl) (by kernel_rfl) (by kernel_rfl) (by kernel_rfl) (by kernel_rfl) (by simp [Act.put]) hS7.out ?_
  apply Exists.intro
  refine And.intro (fun w' hS' => ?_) ?_
  · clear hS'
    go_wp2
    first
      | exact ⟨trivial, rfl⟩
      | exact rfl
  refine pf_last (i := 24) rfl (by kernel_rfl) (by kernel_rfl) ?_
  refine wpList_store_cell rfl 29 (.tmp 27) (.tmp 25) rfl g (o + i) T rfl cur v' rfl (by obtain ⟨_, _, e⟩ := R7.out.slice; rw [e]; rfl) hS7.out.1 (by have := H.out.fit; have := H.out.hi; omega) infoSl8 ?_
  intro w8 k8 o8
  have K8 := Lib.hid k8
  have R8 := Lib.hid (R7.out.only o8 hS7.out.1.tag H.out.t3)
  have G8 : Hid (w.grownBy w8 (some g)) := Lib.hid (grown_trans G7.out o8.grown)
  clear k8 o8
  go_wp2
  refine pf_done (by kernel_rfl) ?_
  go_wp2
  exact Great.bodyPost_end0 rfl rfl ⟨rfl, v', K8.out, R8.out, G8.out⟩

set_option maxRecDepth 100000 in
set_option maxHeartbeats 4000000 in
theorem cut1_any [Inhabited (Option Nat)] (w : World) (T : TypeId) (g o : Nat) (cur : List Value) (i : Nat) (v : Value) (l : Bs) (m : Nat) (g1 g2 : Nat) (h : Lay w T g o cur i v l) (h1 : CB w 3 g1 [.int .i64 (i : Int)]) (h2 : CB w 3 g2 [.int .i64 (m : Int)]) :
    Calls Try.prog 61 #[.pointer (some ⟨g, o, none⟩), .pointer (some ⟨g1, 0, none⟩), .pointer (some ⟨g2, 0, none⟩)] w fun e w' => e = .returned (.tuple #[]) ∧ ∃ v', CB w' T g (cur.set (o + i) v') ∧ RdU w' v' (l.take m) ∧ w.grownBy w' (some g) := by
  obtain ⟨a, c, rfl⟩ := h.rd.slice
  obtain ⟨n, hn⟩ : ∃ n, n = l.length := ⟨_, rfl⟩
  rw [← hn] at h
  have bi : (i : Int) < 16 := by have := h.hi; omega
  have bc : (n : Int) ≤ (c : Int) := by
    rcases h.rd.1.2 with ⟨he, _⟩ | ⟨ad, c', he, hnc, _⟩
    · simp only [Value.slice.injEq] at he; omega
    · simp only [Value.slice.injEq] at he; omega
  have H := Lib.hid h
  have HN := Lib.hid hn
  have hS : Hid (CB w.drew T g cur ∧ CB w.drew 3 g1 [.int .i64 (i : Int)] ∧ CB w.drew 3 g2 [.int .i64 (m : Int)]) := Lib.hid ⟨h.cb.drew, h1.drew, h2.drew⟩
  clear h h1 h2 hn
  go_enter Try.func61, Try.ntmps61
  go_wp2_with fail
  refine pf_start 19 rfl (fun w' => CB w' T g cur ∧ CB w' 3 g1 [.int .i64 (i : Int)] ∧ CB w' 3 g2 [.int .i64 (m : Int)]) (fun i => i == 18) (by kernel_rfl) ?_
  refine pf_take (i := 0) 4 rfl rfl rfl (by kernel_rfl) (by kernel_rfl) (by kernel_rfl) (by kernel_rfl) (by kernel_rfl) (by simp [Act.put]) hS.out ?_
  apply Exists.intro
  refine And.intro (fun w' hS' => ?_) ?_
  · clear hS'
    go_wp2
    first
      | exact ⟨trivial, rfl⟩
      | exact rfl
  refine pf_take (i := 1) 5 rfl rfl rfl (by kernel_rfl) (by kernel_rfl) (by kernel_rfl) (by kernel_rfl) (by kernel_rfl) (by simp [Act.put]) hS.out ?_
  apply Exists.intro
  refine And.intro (fun w' hS' => ?_) ?_
  · have hc := hS'.2.1.cell 0 _ rfl
    clear hS'
    go_wp2
    first
      | exact ⟨trivial, rfl⟩
      | exact rfl
  refine pf_take (i := 2) 6 rfl rfl rfl (by kernel_rfl) (by kernel_rfl) (by kernel_rfl) (by kernel_rfl) (by kernel_rfl) (by simp [Act.put]) hS.out ?_
  apply Exists.intro
  refine And.intro (fun w' hS' => ?_) ?_
  · clear hS'
    go_wp2
    first
      | exact ⟨trivial, rfl⟩
      | exact rfl
  refine pf_take (i := 3) 7 rfl rfl rfl (by kernel_rfl) (by kernel_rfl) (by kernel_rfl) (by kernel_rfl) (by kernel_rfl) (by simp [Act.put]) hS.out ?_
  apply Exists.intro
  refine And.intro (fun w' hS' => ?_) ?_
  · have hc := hS'.2.1.cell 0 _ rfl
    clear hS'
    go_wp2
    first
      | exact ⟨trivial, rfl⟩
      | exact rfl
  refine pf_take (i := 4) 8 rfl rfl rfl (by kernel_rfl) (by kernel_rfl) (by kernel_rfl) (by kernel_rfl) (by kernel_rfl) (by simp [Act.put]) hS.out ?_
  apply Exists.intro
  refine And.intro (fun w' hS' => ?_) ?_
  · clear hS'
    go_wp2
    first
      | exact ⟨trivial, rfl⟩
      | exact rfl
  refine pf_take (i := 5) 9 rfl rfl rfl (by kernel_rfl) (by kernel_rfl) (by kernel_rfl) (by kernel_rfl) (by kernel_rfl) (by simp [Act.put]) hS.out ?_
  apply Exists.intro
  refine And.intro (fun w' hS' => ?_) ?_
  · clear hS'
    go_wp2
    first
      | exact ⟨trivial, rfl⟩
      | exact rfl
  refine pf_take (i := 6) 10 rfl rfl rfl (by kernel_rfl) (by kernel_rfl) (by kernel_rfl) (by kernel_rfl) (by kernel_rfl) (by simp [Act.put]) hS.out ?_
  apply Exists.intro
  refine And.intro (fun w' hS' => ?_) ?_
  · have hc := hS'.1.cell (o + i) _ H.out.at_
    clear hS'
    go_wp2
    first
      | exact ⟨trivial, rfl⟩
      | exact rfl
  refine pf_take (i := 7) 11 rfl rfl rfl (by kernel_rfl) (by kernel_rfl) (by kernel_rfl) (by kernel_rfl) (by kernel_rfl) (by simp [Act.put]) hS.out ?_
  apply Exists.intro
  refine And.intro (fun w' hS' => ?_) ?_
  · have hc := hS'.2.2.cell 0 _ rfl
    clear hS'
    go_wp2
    first
      | exact ⟨trivial, rfl⟩
      | exact rfl
  refine pf_take (i := 8) 12 rfl rfl rfl (by kernel_rfl) (by kernel_rfl) (by kernel_rfl) (by kernel_rfl) (by kernel_rfl) (by simp [Act.put]) hS.out ?_
  apply Exists.intro
  refine And.intro (fun w' hS' => ?_) ?_
  · clear hS'
    go_wp2
    first
      | exact ⟨trivial, rfl⟩
      | exact rfl
  refine pf_take (i := 9) 13 rfl rfl rfl (by kernel_rfl) (by kernel_rfl) (by kernel_rfl) (by kernel_rfl) (by kernel_rfl) (by simp [Act.put]) hS.out ?_
  apply Exists.intro
  refine And.intro (fun w' hS' => ?_) ?_
  · have hc := hS'.2.1.cell 0 _ rfl
    clear hS'
    go_wp2
    first
      | exact ⟨trivial, rfl⟩
      | exact rfl
  refine pf_take (i := 10) 14 rfl rfl rfl (by kernel_rfl) (by kernel_rfl) (by kernel_rfl) (by kernel_rfl) (by kernel_rfl) (by simp [Act.put]) hS.out ?_
  apply Exists.intro
  refine And.intro (fun w' hS' => ?_) ?_
  · clear hS'
    go_wp2
    first
      | exact ⟨trivial, rfl⟩
      | exact rfl
  refine pf_take (i := 11) 15 rfl rfl rfl (by kernel_rfl) (by kernel_rfl) (by kernel_rfl) (by kernel_rfl) (by kernel_rfl) (by simp [Act.put]) hS.out ?_
  apply Exists.intro
  refine And.intro (fun w' hS' => ?_) ?_
  · clear hS'
    go_wp2
    first
      | exact ⟨trivial, rfl⟩
      | exact rfl
  refine pf_take (i := 12) 16 rfl rfl rfl (by kernel_rfl) (by kernel_rfl) (by kernel_rfl) (by kernel_rfl) (by kernel_rfl) (by simp [Act.put]) hS.out ?_
  apply Exists.intro
  refine And.intro (fun w' hS' => ?_) ?_
  · have hc := hS'.1.cell (o + i) _ H.out.at_
    clear hS'
    go_wp2
    first
      | exact ⟨trivial, rfl⟩
      | exact rfl
  refine pf_take (i := 13) 17 rfl rfl rfl (by kernel_rfl) (by kernel_rfl) (by kernel_rfl) (by kernel_rfl) (by kernel_rfl) (by simp [Act.put]) hS.out ?_
  apply Exists.intro
  refine And.intro (fun w' hS' => ?_) ?_
  · clear hS'
    go_wp2
    first
      | exact ⟨trivial, rfl⟩
      | exact rfl
  refine pf_free (i := 16) 20 rfl rfl rfl (by kernel_rfl) (by kernel_rfl) (by kernel_rfl) rfl (by simp [Act.put]) (fun _ => hS.out) ?_
  apply Exists.intro
  refine And.intro (fun w' => ?_) ?_
  · go_wp2
    first
      | exact ⟨trivial, rfl⟩
      | exact rfl
  obtain ⟨q, hq⟩ : ∃ q, q = min m n := ⟨_, rfl⟩
  have e : min (m : Int) (n : Int) = (q : Int) := by omega
  have bq : (q : Int) ≤ (n : Int) := by omega
  have bq' : (q : Int) ≤ (c : Int) := by omega
  obtain ⟨wd, hwd⟩ : ∃ wd, wd = w.drew := ⟨_, rfl⟩
  have GD : Hid (w.grownBy wd (some g)) := Lib.hid (by rw [hwd]; exact grown_drew w _)
  have RA : Hid (RdU wd (.slice a q c) (l.take m)) := Lib.hid (by
    rw [hwd, show l.take m = l.take q by rw [hq, HN.out, List.take_eq_take_iff]; omega]
    exact (H.out.rd.fresh (Below.refl _ w).drew).take (by omega))
  rw [← hwd] at hS ⊢
  clear hwd hq
  refine pf_heavy (i := 14) rfl (by kernel_rfl) ?_
  go_wp2
  refine And.intro hS.out ?_
  clear e
  refine pf_take (i := 15) 19 rfl rfl rfl (by kernel_rfl) (by kernel_rfl) (by kernel_rfl) (by kernel_rfl) (by kernel_rfl) (by simp [Act.put]) hS.out ?_
  apply Exists.intro
  refine And.intro (fun w' hS' => ?_) ?_
  · clear hS'
    go_wp2
    first
      | exact ⟨trivial, rfl⟩
      | exact rfl
  refine pf_take (i := 17) 21 rfl rfl rfl (by kernel_rfl) (by kernel_rfl) (by kernel_rfl) (by kernel_rfl) (by kernel_rfl) (by simp [Act.put]) hS.out ?_
  apply Exists.intro
  refine And.intro (fun w' hS' => ?_) ?_
  · clear hS'
    go_wp2
    first
      | exact ⟨trivial, rfl⟩
      | exact rfl
  refine pf_last (i := 18) rfl (by kernel_rfl) (by kernel_rfl) ?_
  refine wpList_store_cell rfl 29 (.tmp 21) (.tmp 19) rfl g (o + i) T rfl cur (.slice a q c) rfl rfl hS.out.1 (by have := H.out.fit; have := H.out.hi; omega) infoSl8 ?_
  intro w8 k8 o8
  have K8 := Lib.hid k8
  have R8 := Lib.hid (RA.out.only o8 hS.out.1.tag H.out.t3)
  have G8 : Hid (w.grownBy w8 (some g)) := Lib.hid (grown_trans GD.out o8.grown)
  clear k8 o8
  go_wp2
  refine pf_done (by kernel_rfl) ?_
  go_wp2
  exact Great.bodyPost_end0 rfl rfl ⟨rfl, _, K8.out, R8.out, G8.out⟩

end Go.Proofs.Ytbbbgpdhdlknjaa
