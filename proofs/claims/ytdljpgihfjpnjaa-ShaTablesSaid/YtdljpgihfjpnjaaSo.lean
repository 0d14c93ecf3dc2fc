/- ShaTables: one more; a product: the walks. -/
import Derived.Test.YtdljpgihfjpnjaaSm
import Derived.Test.YtdljpgihfjpnjaaPlan
import Derived.StillTailTactics
namespace Go.Proofs.Ytdljpgihfjpnjaa
set_option linter.unusedVariables false
set_option linter.unusedSimpArgs false
open Go.RowKit Go.Lib

theorem own_set {w : World} {base g n c : Nat} {E : List Nat} (h : w.ownsRow base 28 1 (.slice (some ⟨g, 0, none⟩) n c) n (ns E)) (k x : Nat) :
    (w.setCell ⟨g, k, none⟩ (nv x)).ownsRow base 28 1 (.slice (some ⟨g, 0, none⟩) n c) n (ns (E.set k x)) := by
  refine ⟨by have := h.1; simpa using this, ?_⟩
  rcases h.2 with ⟨he, _⟩ | ⟨g', cap, cur, he, hbg, hg, h1, h2, h3, htake⟩
  · simp at he
  · simp only [Value.slice.injEq, Option.some.injEq, Addr.mk.injEq, and_true, true_and] at he
    obtain ⟨rfl, rfl⟩ := he
    refine .inr ⟨g, c, _, rfl, hbg, heap_setCell_same _ _ _ _ _ _ hg, h1, h2, by simpa using h3, ?_⟩
    simp only [Array.toList_setIfInBounds]
    rw [List.take_set, htake]
    simp [ns, List.map_set]

theorem own_cell {w : World} {base g n c : Nat} {E : List Nat} (h : w.ownsRow base 28 1 (.slice (some ⟨g, 0, none⟩) n c) n (ns E)) (k : Nat) (hk : k < n) : w.cell? ⟨g, k, none⟩ = some (nv (E.getD k 0)) ∧ w.frozen? ⟨g, k, none⟩ = false := by
  obtain ⟨h1, _⟩ := Nb.of_own h
  have hl : E.length = n := by have := h.1; simpa using this
  exact ⟨h1.get k (by omega), h1.free k⟩

theorem own_some {w : World} {base n c : Nat} {a : Option Addr} {E : List Nat} (h : w.ownsRow base 28 1 (.slice a n c) n (ns E)) (hn : 0 < n) : ∃ g, a = some ⟨g, 0, none⟩ ∧ base ≤ g := by
  rcases h.2 with ⟨he, h0⟩ | ⟨g', cap, cur, he, hbg, _⟩
  · omega
  · simp only [Value.slice.injEq, true_and] at he
    exact ⟨g', he.1, hbg⟩

theorem moF_pass (d : List Nat) (i : Nat) (h : ∀ j, j < i → ¬ d.getD j 0 < 65535) (hi : i ≤ d.length) : moF d = List.replicate i 0 ++ moF (d.drop i) := by
  induction i generalizing d with
  | zero => simp
  | succ i ih =>
    rcases d with _ | ⟨x, l⟩
    · simp at hi
    · have h0 := h 0 (by omega)
      simp at h0
      have h1 := ih l (fun j hj => by have := h (j + 1) (by omega); simpa [List.getD_cons_succ] using this) (by simpa using hi)
      rw [show moF (x :: l) = if x < 65535 then (x + 1) :: l else 0 :: moF l from rfl, if_neg (by omega), h1]
      simp [List.replicate_succ]

set_option maxRecDepth 100000 in
set_option maxHeartbeats 400000 in
theorem more_any (w : World) (v : Value) (d : List Nat) (hr : Rd w 1 v d.length (ns d)) (hd : d.length ≤ 1000) :
    Calls Try.prog 67 #[v] w fun e w' => ∃ v', e = .returned v' ∧ Rd w' 1 v' (moF d).length (ns (moF d)) ∧ Below w.heap.size w w' := by
  obtain ⟨i0, hi, hz0, hz1, hz2⟩ := info_parts infoU64
  obtain ⟨a0, c0, rfl⟩ := hr.slice
  obtain ⟨n, hn⟩ : ∃ n, n = d.length := ⟨_, rfl⟩
  rw [← hn] at hr hd ⊢
  have HR := Lib.hid hr
  have HN := Lib.hid hn
  clear hr hn
  go_enter Try.func67, Try.ntmps67
  go_wp2_with (at_builtin; apply Stop.mk)
  refine Stop.go ?_
  refine wpList_append_rd _ rfl _ (.tmp 5) 74 rfl w.heap.size 28 i0 (.int .u64 0) 1 8 Try.underlying74 hi hz0 hz1 hz2 rfl (by decide) (.slice none 0 0) 0 [] rfl (World.ownsRow_nil _ _ _ _) (.slice a0 n c0) n (ns d) rfl HR.out (ns_one d) (by unfold maxLen; omega) (by omega) (Nat.le_refl _) ?_
  intro v1 w1 hown hgr _ _
  have hb1 : Below w.heap.size w w1 := (Below.refl _ w).grown hgr (Nat.le_refl _) (by simp [Value.ownBlock])
  rw [Nat.zero_add, List.nil_append] at hown
  obtain ⟨a1, c1, rfl⟩ := own_slice hown
  have HO := Lib.hid hown
  have HB := Lib.hid hb1
  clear hown hgr hb1
  go_wp2
  go_loopw [4] (fun v4 wr => ∃ i : Nat, i ≤ n ∧ v4 = .int .i64 (i : Int) ∧ (∀ j, j < i → ¬ d.getD j 0 < 65535) ∧ wr.ownsRow w.heap.size 28 1 (.slice a1 n c1) n (ns (List.replicate i 0 ++ d.drop i)) ∧ Below w.heap.size w wr)
    (fun v _ => n - (intOf v).toNat)
  case atStart => exact ⟨0, by omega, rfl, fun j hj => by omega, by simpa using HO.out, HB.out⟩
  case round =>
    clear HO HB
    obtain ⟨i, hin, rfl, hall, ho, hb⟩ := hrel
    have HO := Lib.hid ho
    have HB := Lib.hid hb
    have HA := Lib.hid hall
    clear ho hb hall
    by_cases hlt : i < n
    · obtain ⟨g, rfl, hbg⟩ := own_some HO.out (by omega)
      obtain ⟨x, hx⟩ : ∃ x, x = d.getD i 0 := ⟨_, rfl⟩
      have hg0 : (List.replicate i 0 ++ d.drop i).getD i 0 = x := by
        rw [hx]
        simp [List.getD_eq_getElem?_getD, List.getElem?_append_right]
      obtain ⟨fc, ff⟩ := own_cell HO.out i hlt
      rw [hg0] at fc
      unfold nv at fc
      have bi : (i : Int) < (n : Int) := by omega
      have hdrop : d.drop i = x :: d.drop (i + 1) := by
        rw [List.drop_eq_getElem_cons (by have := HN.out; omega), hx]
        congr 1
        have : i < d.length := by have := HN.out; omega
        simp [List.getD_eq_getElem?_getD, this]
      have hset : ∀ y, (List.replicate i 0 ++ d.drop i).set i y = List.replicate i 0 ++ y :: d.drop (i + 1) := by
        intro y
        rw [List.set_append_right _ _ (by simp), hdrop]
        simp
      have HX := Lib.hid (And.intro hx (And.intro hdrop hset))
      clear hx hg0 hdrop hset
      by_cases h65 : x < 65535
      · have hxi : (x : Int) < 65535 := by omega
        go_wp2
        go_ret
        have h1 := own_set HO.out i (x + 1)
        rw [HX.out.2.2] at h1
        have h2 : moF d = List.replicate i 0 ++ (x + 1) :: d.drop (i + 1) := by
          rw [moF_pass d i HA.out (by have := HN.out; omega), HX.out.2.1]
          show List.replicate i 0 ++ (if x < 65535 then _ else _) = _
          rw [if_pos h65]
        have h3 := Rd.of_own h1
        have h4 : (moF d).length = n := by rw [h2]; have := h3.1; simpa using this
        refine ⟨_, rfl, ?_, HB.out.setCell hbg _⟩
        rw [h4, h2]
        exact h3
      · have hxi : ¬ ((x : Int) < 65535) := by omega
        go_wp2
        go_roundw
        case rel =>
          have h1 := own_set HO.out i 0
          rw [HX.out.2.2] at h1
          refine ⟨i + 1, by omega, by go_num, fun j hj => ?_, ?_, HB.out.setCell hbg _⟩
          · rcases Nat.lt_or_ge j i with h | h
            · exact HA.out j h
            · rw [show j = i by omega, ← HX.out.1]; exact h65
          · rw [List.replicate_succ', List.append_assoc]
            exact h1
        case measure =>
          simp only [intOf]
          omega
    · have hin' : i = n := by omega
      have h1 := HO.out
      have h0 : List.replicate i 0 ++ d.drop i = List.replicate n 0 := by rw [hin', List.drop_eq_nil_of_le (by have := HN.out; omega), List.append_nil]
      rw [h0] at h1
      have hm : moF d = List.replicate n 0 ++ [1] := by
        rw [moF_pass d n (by rw [← hin']; exact HA.out) (by have := HN.out; omega), List.drop_eq_nil_of_le (by have := HN.out; omega)]
        rfl
      have HO2 := Lib.hid h1
      have HM := Lib.hid hm
      have HI := Lib.hid hin'
      clear h1 h0 hm hin'
      go_wp2_with (at_builtin; apply Stop.mk)
      refine Stop.go ?_
      have hbs : w.heap.size ≤ (wr.alloc (.cells #[.int .u64 1] 28)).heap.size := by
        have h1 := HB.out.size
        have h2 : (wr.alloc (.cells #[.int .u64 1] 28)).heap.size = wr.heap.size + 1 := Array.size_push _
        omega
      refine wpList_append_rd _ rfl (.tmp 28) (.tmp 29) 74 rfl w.heap.size 28 i0 (.int .u64 0) 1 8 Try.underlying74 hi hz0 hz1 hz2 rfl (by decide) (.slice a1 n c1) n _ rfl (HO2.out.alloc _) _ 1 [nv 1] rfl (rd_one wr _ _) (ns_one [1]) (by unfold maxLen; omega) (by omega) hbs ?_
      intro v' w' hown hgr _ hgrew
      have hb' : Below w.heap.size w w' := Below.grown (HB.out.alloc HB.out.size _) hgr hbs (own_base HO2.out)
      obtain ⟨a2, c2, rfl⟩ := own_slice hown
      have HOW := Lib.hid hown
      have HBW := Lib.hid hb'
      clear hown hgr hgrew hbs hb'
      go_wp2
      go_ret
      refine ⟨_, rfl, ?_, HBW.out⟩
      have h1 := Rd.of_own HOW.out
      have h2 : (moF d).length = n + 1 := by rw [HM.out]; simp
      rw [h2, HM.out]
      simpa [ns] using h1
end Go.Proofs.Ytdljpgihfjpnjaa
