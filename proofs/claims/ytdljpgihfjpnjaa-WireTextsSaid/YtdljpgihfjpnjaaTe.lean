/- A hash of digits: the walks. -/
import Derived.Test.YtdljpgihfjpnjaaTd
import Derived.Laws.Cover3
namespace Go.Proofs.Ytdljpgihfjpnjaa
set_option linter.unusedVariables false
set_option linter.unusedSimpArgs false
open Go.RowKit Go.Lib

theorem results_cell_tmp {P : Program} {fn : Func} {p q : Tmp} {ty : TypeId} (h : fn.results = #[.cell p ty, .tmp q]) (tmps : Array Value) (w : World) (g : Nat) (t : TypeId) (cs : Array Value) (fr : Nat × Nat) (d : TypeDesc)
    (hp : tmps.getD p undef = .pointer (some ⟨g, 0, none⟩)) (hg : w.heap[g]? = some (.cells cs t fr))
    (hu : P.underlying ty = some d) (hd : (match d with | .struct _ | .array _ _ => true | _ => false) = true) (hi : (P.info? ty).map (·.size) = some cs.size) :
    (results fn tmps).run P w = .ok (.tuple #[.agg cs, tmps.getD q undef]) w := by
  have hp' : tmps[p]?.getD undef = .pointer (some ⟨g, 0, none⟩) := by simpa using hp
  simp [results, h, hp', asAddr, run_loadVar_row w g t ty cs fr d hg hu hd hi]

/-- The hash of digits. -/
def hexH (s : List UInt8) : Option (List UInt8) := (ofHexB s).bind fun y => if y.length = 32 then some y else none

def zero32 : List UInt8 := List.replicate 32 0

def HashPost (w : World) (s : List UInt8) (bad good : Value) (e : Ending) (w' : World) : Prop :=
  ∃ (h : List UInt8) (u : Value), e = .returned (.tuple #[.agg (bvs h).toArray, u]) ∧ h.length = 32 ∧ ((hexH s = none ∧ h = zero32 ∧ u = bad) ∨ (hexH s = some h ∧ u = good)) ∧ Below w.heap.size w w'

set_option maxRecDepth 100000 in
theorem hashOf_any (w : World) (s : List UInt8) (hn : s.length ≤ 1000000) :
    Calls Try.prog 19 #[.string ⟨s.toArray⟩] w (HashPost w s (.int .i64 4) (.int .i64 0)) := by
  have Hc := fun w0 => ofHex_any w0 s hn
  generalize (⟨s.toArray⟩ : ByteArray) = T at *
  have HC := Lib.hid Hc; clear Hc
  go_enter Try.func19, Try.ntmps19
  go_wp2_with fail
  obtain ⟨w0, hw0, hz, b0⟩ : ∃ w0, w0 = w.alloc (.cells (bvs zero32).toArray 30) ∧ BB w0 30 w.heap.size zero32 ∧ Below w.heap.size w w0 :=
    ⟨_, rfl, BB.new w _ _, (Below.refl _ w).alloc (Nat.le_refl _) _⟩
  change Calls _ _ _ (w.alloc (.cells (bvs zero32).toArray 30)) _
  rw [← hw0]
  clear hw0
  refine (HC.out w0).mono ?_
  rintro e w1 ⟨v', u', rfl, b1, hcase⟩
  have hz1 := hz.fresh b1
  have B1 : Hid (Below w.heap.size w w1) := b0.trans (b1.mono b0.size)
  clear hz b0 b1
  rcases hcase with ⟨hof, rfl, rfl⟩ | ⟨y, hof, rfl, hrd⟩
  · have Hh : Hid (hexH s = none) := by
      refine Lib.hid ?_
      simp [hexH, hof]
    clear hof
    go_wp2_with (with_reducible refine stopStore 30 ?_)
    refine Stop.go ?_
    refine wpList_store_var rfl 30 (.tmp 2) (.tmp 18) rfl w.heap.size _ rfl _ (bvs zero32) rfl hz1 (by simp) (bvs_one _) (by rw [bvs_length]; exact infoHash) ?_
    intro w2 hb2 ho2
    have B2 : Hid (Below w.heap.size w w2) := Below.only B1.out ho2 (Nat.le_refl _)
    clear ho2
    go_wp2
    exact bodyPost_ret (results_cell_tmp rfl _ _ w.heap.size _ _ _ _ rfl hb2 Try.underlying30 rfl (by simp [zero32, infoHash])) rfl ⟨_, _, rfl, rfl, .inl ⟨Hh.out, rfl, rfl⟩, B2.out⟩
  · obtain ⟨a, c, rfl⟩ := hrd.slice
    by_cases hy : y.length = 32
    · have Hh : Hid (hexH s = some y) := by
        refine Lib.hid ?_
        simp [hexH, hof, hy]
      clear hof
      rcases hrd.2 with ⟨he, h0⟩ | ⟨ad, c', he, _, _, hcell⟩
      · omega
      simp only [Value.slice.injEq, true_and] at he
      obtain ⟨rfl, rfl⟩ := he
      have hat : ∀ w', (Instr.arrayAt 30 (.slice (some ad) y.length c)).run Try.prog w' = .ok (.pointer (some ad)) w' := fun w' => run_arrayAt w' 30 5 32 (some ad) y.length c Try.underlying30 (by omega)
      have HY := Lib.hid hy
      have hyi : (y.length : Int) = 32 := by omega
      have Hcell := Lib.hid hcell
      have Hz1 := Lib.hid hz1
      clear hcell hrd hz1 hy
      go_wp2_with (with_reducible refine stopAt 21 ?_)
      refine Stop.go ?_
      refine wpList_load_agg rfl 30 (.tmp 20) rfl ad rfl (bvs y) _ Hcell.out Try.underlying30 rfl (by rw [bvs_length, HY.out]; exact infoHash) ?_
      go_wp2_with (with_reducible refine stopStore 30 ?_)
      refine Stop.go ?_
      refine wpList_store_var rfl 30 (.tmp 2) (.tmp 21) rfl w.heap.size _ rfl _ (bvs y) rfl Hz1.out (by simp [zero32, HY.out]) (bvs_one _) (by rw [bvs_length, HY.out]; exact infoHash) ?_
      intro w2 hb2 ho2
      have B2 : Hid (Below w.heap.size w w2) := Below.only B1.out ho2 (Nat.le_refl _)
      clear ho2
      go_wp2
      exact bodyPost_ret (results_cell_tmp rfl _ _ w.heap.size _ _ _ _ rfl hb2 Try.underlying30 rfl (by simp [HY.out, infoHash])) rfl ⟨_, _, rfl, HY.out, .inr ⟨Hh.out, rfl⟩, B2.out⟩
    · have Hh : Hid (hexH s = none) := by
        refine Lib.hid ?_
        simp [hexH, hof, hy]
      have hyi : ¬ ((y.length : Int) = 32) := by omega
      clear hof hrd
      go_wp2_with (with_reducible refine stopStore 30 ?_)
      refine Stop.go ?_
      refine wpList_store_var rfl 30 (.tmp 2) (.tmp 18) rfl w.heap.size _ rfl _ (bvs zero32) rfl hz1 (by simp) (bvs_one _) (by rw [bvs_length]; exact infoHash) ?_
      intro w2 hb2 ho2
      have B2 : Hid (Below w.heap.size w w2) := Below.only B1.out ho2 (Nat.le_refl _)
      clear ho2
      go_wp2
      exact bodyPost_ret (results_cell_tmp rfl _ _ w.heap.size _ _ _ _ rfl hb2 Try.underlying30 rfl (by simp [zero32, infoHash])) rfl ⟨_, _, rfl, rfl, .inl ⟨Hh.out, rfl, rfl⟩, B2.out⟩

set_option maxRecDepth 100000 in
theorem rhashOf_any (w : World) (s : List UInt8) (hn : s.length ≤ 1000000) :
    Calls Try.prog 20 #[.string ⟨s.toArray⟩] w (HashPost w s (.bool false) (.bool true)) := by
  have Hc := fun w0 => rofHex_any w0 s hn
  generalize (⟨s.toArray⟩ : ByteArray) = T at *
  have HC := Lib.hid Hc; clear Hc
  go_enter Try.func20, Try.ntmps20
  go_wp2_with fail
  obtain ⟨wa, hwa, hza, ba⟩ : ∃ w0, w0 = w.alloc (.cells (bvs zero32).toArray 30) ∧ BB w0 30 w.heap.size zero32 ∧ Below w.heap.size w w0 :=
    ⟨_, rfl, BB.new w _ _, (Below.refl _ w).alloc (Nat.le_refl _) _⟩
  have hsa : wa.heap.size = w.heap.size + 1 := by rw [hwa]; exact Array.size_push _
  obtain ⟨w0, hw0, hz, b0⟩ : ∃ w0, w0 = wa.alloc (.cells (bvs zero32).toArray 30) ∧ BB w0 30 wa.heap.size zero32 ∧ Below wa.heap.size wa w0 :=
    ⟨_, rfl, BB.new wa _ _, (Below.refl _ wa).alloc (Nat.le_refl _) _⟩
  have hzr : BB w0 30 w.heap.size zero32 := hza.fresh b0
  have bw : Below w.heap.size w w0 := ba.trans (b0.mono ba.size)
  rw [hsa] at hz
  change Calls _ _ _ ((w.alloc (.cells (bvs zero32).toArray 30)).alloc (.cells (bvs zero32).toArray 30)) _
  rw [← hwa, ← hw0]
  clear hw0 hwa hsa hza ba b0
  refine (HC.out w0).mono ?_
  rintro e w1 ⟨v', u', rfl, b1, hcase⟩
  have hz1 := hz.fresh b1
  have hr1 := hzr.fresh b1
  have B1 : Hid (Below w.heap.size w w1) := bw.trans (b1.mono bw.size)
  clear hz hzr bw b1
  rcases hcase with ⟨hof, rfl, rfl⟩ | ⟨y, hof, rfl, hrd⟩
  · have Hh : Hid (hexH s = none) := by
      refine Lib.hid ?_
      simp [hexH, hof]
    clear hof
    go_wp2_with (with_reducible refine stopAt 19 ?_)
    refine Stop.go ?_
    refine wpList_load_agg rfl 30 (.tmp 4) rfl ⟨w.heap.size + 1, 0, none⟩ rfl (bvs zero32) _ (At.block hz1).load Try.underlying30 rfl (by rw [bvs_length]; exact infoHash) ?_
    go_wp2_with (with_reducible refine stopStore 30 ?_)
    refine Stop.go ?_
    refine wpList_store_var rfl 30 (.tmp 2) (.tmp 19) rfl w.heap.size _ rfl _ (bvs zero32) rfl hr1 (by simp) (bvs_one _) (by rw [bvs_length]; exact infoHash) ?_
    intro w2 hb2 ho2
    have B2 : Hid (Below w.heap.size w w2) := Below.only B1.out ho2 (Nat.le_refl _)
    clear ho2
    go_wp2
    exact bodyPost_ret (results_cell_tmp rfl _ _ w.heap.size _ _ _ _ rfl hb2 Try.underlying30 rfl (by simp [zero32, infoHash])) rfl ⟨_, _, rfl, rfl, .inl ⟨Hh.out, rfl, rfl⟩, B2.out⟩
  · obtain ⟨a, c, rfl⟩ := hrd.slice
    by_cases hy : y.length = 32
    · have Hh : Hid (hexH s = some y) := by
        refine Lib.hid ?_
        simp [hexH, hof, hy]
      have hyi : (y.length : Int) = 32 := by omega
      clear hof
      have HY := Lib.hid hy
      have Hrd := Lib.hid hrd
      have Hz1 := Lib.hid hz1
      have Hr1 := Lib.hid hr1
      clear hrd hz1 hr1 hy
      go_wp2_with (with_reducible refine stopAt 22 ?_)
      refine Stop.go ?_
      refine wpList_copy_all rfl (.tmp 20) (.tmp 21) 25 25 rfl 5 Try.underlying25 sizeU8 (w.heap.size + 1) 32 32 30 zero32 y (.slice a y.length c) _ rfl rfl rfl Hz1.out Hrd.out ?_
      intro w2 hb2 ho2
      have hb3 : BB w2 30 (w.heap.size + 1) y := by
        have : List.take 32 y ++ List.drop (Nat.min y.length 32) zero32 = y := by
          rw [List.take_of_length_le (by have := HY.out; omega), HY.out]
          simp [zero32]
        rw [this] at hb2
        exact hb2
      have hr2 := Hr1.out.only ho2 (by omega)
      have B2 : Hid (Below w.heap.size w w2) := Below.only B1.out ho2 (by omega)
      have Hr2 := Lib.hid hr2
      have Hb3 := Lib.hid hb3
      clear ho2 hb2 hb3 hr2
      go_wp2_with (with_reducible refine stopAt 23 ?_)
      refine Stop.go ?_
      refine wpList_load_agg rfl 30 (.tmp 4) rfl ⟨w.heap.size + 1, 0, none⟩ rfl (bvs y) _ (At.block Hb3.out).load Try.underlying30 rfl (by rw [bvs_length, HY.out]; exact infoHash) ?_
      go_wp2_with (with_reducible refine stopStore 30 ?_)
      refine Stop.go ?_
      refine wpList_store_var rfl 30 (.tmp 2) (.tmp 23) rfl w.heap.size _ rfl _ (bvs y) rfl Hr2.out (by simp [zero32, HY.out]) (bvs_one _) (by rw [bvs_length, HY.out]; exact infoHash) ?_
      intro w3 hb4 ho3
      have B3 : Hid (Below w.heap.size w w3) := Below.only B2.out ho3 (Nat.le_refl _)
      clear ho3
      go_wp2
      exact bodyPost_ret (results_cell_tmp rfl _ _ w.heap.size _ _ _ _ rfl hb4 Try.underlying30 rfl (by simp [HY.out, infoHash])) rfl ⟨_, _, rfl, HY.out, .inr ⟨Hh.out, rfl⟩, B3.out⟩
    · have Hh : Hid (hexH s = none) := by
        refine Lib.hid ?_
        simp [hexH, hof, hy]
      have hyi : ¬ ((y.length : Int) = 32) := by omega
      clear hof hrd
      go_wp2_with (with_reducible refine stopAt 19 ?_)
      refine Stop.go ?_
      refine wpList_load_agg rfl 30 (.tmp 4) rfl ⟨w.heap.size + 1, 0, none⟩ rfl (bvs zero32) _ (At.block hz1).load Try.underlying30 rfl (by rw [bvs_length]; exact infoHash) ?_
      go_wp2_with (with_reducible refine stopStore 30 ?_)
      refine Stop.go ?_
      refine wpList_store_var rfl 30 (.tmp 2) (.tmp 19) rfl w.heap.size _ rfl _ (bvs zero32) rfl hr1 (by simp) (bvs_one _) (by rw [bvs_length]; exact infoHash) ?_
      intro w2 hb2 ho2
      have B2 : Hid (Below w.heap.size w w2) := Below.only B1.out ho2 (Nat.le_refl _)
      clear ho2
      go_wp2
      exact bodyPost_ret (results_cell_tmp rfl _ _ w.heap.size _ _ _ _ rfl hb2 Try.underlying30 rfl (by simp [zero32, infoHash])) rfl ⟨_, _, rfl, rfl, .inl ⟨Hh.out, rfl, rfl⟩, B2.out⟩
end Go.Proofs.Ytdljpgihfjpnjaa
