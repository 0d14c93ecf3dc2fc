/- ShaTables: a product: the walk. -/
import Derived.Test.YtdljpgihfjpnjaaSo
namespace Go.Proofs.Ytdljpgihfjpnjaa
set_option linter.unusedVariables false
set_option linter.unusedSimpArgs false
open Go.RowKit Go.Lib

theorem getD_set_self (E : List Nat) (k x : Nat) (h : k < E.length) : (E.set k x).getD k 0 = x := by
  simp [List.getD_eq_getElem?_getD, h]
theorem getD_set_ne (E : List Nat) (k j x : Nat) (h : k ≠ j) : (E.set k x).getD j 0 = E.getD j 0 := by
  simp [List.getD_eq_getElem?_getD, List.getElem?_set_ne h]

set_option maxRecDepth 100000 in
set_option maxHeartbeats 1600000 in
theorem times_any (w : World) (va vb : Value) (a b : List Nat) (ha : Rd w 1 va a.length (ns a)) (hb : Rd w 1 vb b.length (ns b)) (la : a.length ≤ 100) (lb : b.length ≤ 100) :
    Calls Try.prog 75 #[va, vb] w fun e w' => ∃ v', e = .returned v' ∧ Rd w' 1 v' (timesB a b).length (ns (timesB a b)) ∧ Below w.heap.size w w' := by
  obtain ⟨i0, hi, hz0, hz1, hz2⟩ := info_parts infoU64
  obtain ⟨aa, ac, rfl⟩ := ha.slice
  obtain ⟨ba, bc, rfl⟩ := hb.slice
  obtain ⟨na, hna⟩ : ∃ n, n = a.length := ⟨_, rfl⟩
  obtain ⟨nb, hnb⟩ : ∃ n, n = b.length := ⟨_, rfl⟩
  obtain ⟨n, hn⟩ : ∃ n, n = na + nb + 1 := ⟨_, rfl⟩
  rw [← hna] at ha la ⊢
  rw [← hnb] at hb lb ⊢
  have HA := Lib.hid ha
  have HBb := Lib.hid hb
  have HL := Lib.hid (And.intro hna (And.intro hnb hn))
  have e1 : IntKind.i64.wrap ((na : Int) + (nb : Int)) = ((na + nb : Nat) : Int) := by rw [IntKind.wrap_i64]; omega
  have e2 : IntKind.i64.wrap (((na + nb : Nat) : Int) + 1) = (n : Int) := by rw [IntKind.wrap_i64]; omega
  have hn200 : n ≤ 201 := by omega
  have hpos : 0 < n := by omega
  clear ha hb hna hnb hn
  go_enter Try.func75, Try.ntmps75
  go_wp2_with (at_make; apply Stop.mk)
  refine Stop.go ?_
  refine wpList_make_full _ rfl _ _ 74 rfl w.heap.size 28 i0 (.int .u64 0) 1 Try.underlying74 hi hz0 hz1 _ _ _ _ n rfl rfl (by have := HL.out.2.2; omega) (by have := HL.out.2.2; omega) (by rw [hz2]; omega) (by unfold maxLen; omega) (Nat.le_refl _) ?_
  intro w1 hown hgr
  have hb1 : Below w.heap.size w w1 := (Below.refl _ w).grown hgr (Nat.le_refl _) (by simp)
  have ho1 : w1.ownsRow w.heap.size 28 1 (.slice (some ⟨w.heap.size, 0, none⟩) n n) n (ns (List.replicate n 0)) := by
    simpa [ns, nv, Value.cells, toList_madeCells_one] using hown
  obtain ⟨G, hG⟩ : ∃ G, G = w.heap.size := ⟨_, rfl⟩
  rw [← hG] at hb1 ho1 ⊢
  have HB1 := Lib.hid hb1
  have HO1 := Lib.hid ho1
  have HG := Lib.hid hG
  clear hown hgr hb1 ho1 hG
  go_wp2
  go_loopw [6] (fun v6 wr => ∃ i : Nat, i ≤ na ∧ v6 = .int .i64 (i : Int) ∧ wr.ownsRow G 28 1 (.slice (some ⟨G, 0, none⟩) n n) n (ns (tOuter a b i (List.replicate n 0))) ∧ Below G w wr)
    (fun v _ => na - (intOf v).toNat)
  case atStart => exact ⟨0, by omega, rfl, HO1.out, HB1.out⟩
  case round =>
    clear HO1 HB1
    obtain ⟨i, hia, rfl, ho, hb⟩ := hrel
    obtain ⟨E0, hE0⟩ : ∃ E, E = tOuter a b i (List.replicate n 0) := ⟨_, rfl⟩
    rw [← hE0] at ho
    have HO := Lib.hid ho
    have HB := Lib.hid hb
    have HE0 := Lib.hid hE0
    clear ho hb hE0
    by_cases hlt : i < na
    · have bi : (i : Int) < (na : Int) := by omega
      have HLT := Lib.hid hlt
      rename World => wy
      go_wp2
      go_loopw [7] (fun v7 wr => ∃ k : Nat, k ≤ nb ∧ v7 = .int .i64 (k : Int) ∧ wr.ownsRow G 28 1 (.slice (some ⟨G, 0, none⟩) n n) n (ns (tInner a b i k E0)) ∧ Below G w wr)
        (fun v _ => nb - (intOf v).toNat)
      case atStart => exact ⟨0, by omega, rfl, HO.out, HB.out⟩
      case round =>
        clear HO HB
        obtain ⟨k, hkb, rfl, ho, hb⟩ := hrel
        obtain ⟨E, hE⟩ : ∃ E, E = tInner a b i k E0 := ⟨_, rfl⟩
        rw [← hE] at ho
        have hEl : E.length = n := by have := ho.1; simpa using this
        have HO := Lib.hid ho
        have HB := Lib.hid hb
        have HE := Lib.hid (And.intro hE hEl)
        clear ho hb hE hEl
        by_cases hltk : k < nb
        · have hra : Rd wr 1 (.slice aa na ac) na (ns a) := HA.out.below' HB.out HG.out
          have hrb : Rd wr 1 (.slice ba nb bc) nb (ns b) := HBb.out.below' HB.out HG.out
          rcases hra.2 with ⟨_, h0⟩ | ⟨ada, ca, hea, _, _, hca⟩
          · omega
          rcases hrb.2 with ⟨_, h0⟩ | ⟨adb, cb, heb, _, _, hcb⟩
          · omega
          simp only [Value.slice.injEq, true_and] at hea heb
          obtain ⟨rfl, rfl⟩ := hea
          obtain ⟨rfl, rfl⟩ := heb
          obtain ⟨j, hj⟩ : ∃ j, j = i + k := ⟨_, rfl⟩
          obtain ⟨j1, hj1⟩ : ∃ x, x = j + 1 := ⟨_, rfl⟩
          have hjn : j1 < n := by have := HL.out.2.2; omega
          have bk : (k : Int) < (nb : Int) := by omega
          have gj : IntKind.i64.wrap ((i : Int) + (k : Int)) = (j : Int) := by rw [IntKind.wrap_i64]; omega
          have gj1 : IntKind.i64.wrap ((j : Int) + 1) = (j1 : Int) := by rw [IntKind.wrap_i64]; omega
          have bj : (j : Int) < (n : Int) := by omega
          have bj1 : (j1 : Int) < (n : Int) := by omega
          obtain ⟨x, hx⟩ : ∃ x, x = a.getD i 0 := ⟨_, rfl⟩
          obtain ⟨y, hy⟩ : ∃ x, x = b.getD k 0 := ⟨_, rfl⟩
          obtain ⟨e, he⟩ : ∃ x, x = E.getD j 0 := ⟨_, rfl⟩
          have fa : wr.cell? (ada.add i) = some (.int .u64 (x : Int)) := by rw [hx]; exact hca i _ (ns_get _ _ (by have := HL.out.1; omega))
          have fb : wr.cell? (adb.add k) = some (.int .u64 (y : Int)) := by rw [hy]; exact hcb k _ (ns_get _ _ (by have := HL.out.2.1; omega))
          have fe : wr.cell? ⟨G, j, none⟩ = some (.int .u64 (e : Int)) := by rw [he]; exact (own_cell HO.out j (by omega)).1
          have ffe := (own_cell HO.out j (by omega)).2
          obtain ⟨p, hp⟩ : ∃ p, p = x * y % W64 := ⟨_, rfl⟩
          obtain ⟨s, hs⟩ : ∃ s, s = (e + p) % W64 := ⟨_, rfl⟩
          have gp : IntKind.u64.wrap ((x : Int) * (y : Int)) = (p : Int) := by rw [IntKind.wrap_u64, hp]; unfold W64; rw [← Int.natCast_mul]; omega
          have gs : IntKind.u64.wrap ((e : Int) + (p : Int)) = (s : Int) := by rw [IntKind.wrap_u64, hs]; unfold W64; omega
          have HV := Lib.hid (And.intro hx (And.intro hy (And.intro he (And.intro hp (And.intro hs (And.intro hj hj1))))))
          have hj0 := hj
          have hj10 := hj1
          clear hx hy he hp hs hj hj1 hca hcb hra hrb hj0 hj10
          go_wp2_with fail
          go_still_tail 21, (by kernel_rfl)
          change wpList _ _ _ _ _ wr.drew
          go_wp2_with fail
          obtain ⟨wB, hwB⟩ : ∃ v, v = (wr.setCell ⟨G, j, none⟩ (.int .u64 (s : Int))).drew := ⟨_, rfl⟩
          rw [← hwB]
          have hoB : wB.ownsRow G 28 1 (.slice (some ⟨G, 0, none⟩) n n) n (ns (E.set j s)) := by
            have h1 := own_set HO.out j s
            rw [hwB]
            exact h1
          have hbB : Below G w wB := by rw [hwB]; exact (HB.out.setCell (Nat.le_refl _) _).drew
          have hEl := HE.out.2
          have hjn' : j < E.length := by have := HV.out.2.2.2.2.2.2; omega
          have hj1n' : j1 < E.length := by omega
          have hjj1 : j ≠ j1 := by have := HV.out.2.2.2.2.2.2; omega
          obtain ⟨q, hq⟩ : ∃ x, x = E.getD j1 0 := ⟨_, rfl⟩
          have fq : wB.cell? ⟨G, j1, none⟩ = some (.int .u64 (q : Int)) := by
            rw [hq, ← getD_set_ne E j j1 s hjj1]
            exact (own_cell hoB j1 hjn).1
          have ffq := (own_cell hoB j1 hjn).2
          have fs : wB.cell? ⟨G, j, none⟩ = some (.int .u64 (s : Int)) := by
            have h1 := (own_cell hoB j (by omega)).1
            rw [getD_set_self E j s hjn'] at h1
            exact h1
          obtain ⟨c, hc⟩ : ∃ c, c = s / 65536 := ⟨_, rfl⟩
          obtain ⟨t, ht⟩ : ∃ t, t = (q + c) % W64 := ⟨_, rfl⟩
          have gc : (s : Int) / 65536 = (c : Int) := by omega
          have gc' : (s : Int).tdiv 65536 = (c : Int) := by rw [hc]; exact (Int.ofNat_tdiv s 65536).symm
          have gcw : IntKind.u64.wrap (c : Int) = (c : Int) := by
            have := HV.out.2.2.2.2.1
            have h2 : s < W64 := by rw [this]; exact Nat.mod_lt _ (by unfold W64; omega)
            unfold W64 at h2
            rw [IntKind.wrap_u64]; omega
          have gt : IntKind.u64.wrap ((q : Int) + (c : Int)) = (t : Int) := by rw [IntKind.wrap_u64, ht]; unfold W64; omega
          have HV2 := Lib.hid (And.intro hq (And.intro hc (And.intro ht (And.intro hjj1 (And.intro hjn' hj1n')))))
          have HOB := Lib.hid hoB
          have HBB := Lib.hid hbB
          clear hq hc ht hjj1 hjn' hj1n' hoB hbB hwB HO HB fa fb fe ffe hEl
          go_still_tail 21, (by kernel_rfl)
          change wpList _ _ _ _ _ wB.drew
          obtain ⟨r, hr⟩ : ∃ r, r = s % 65536 := ⟨_, rfl⟩
          have gr : (s : Int) % 65536 = (r : Int) := by omega
          have gr' : (s : Int).tmod 65536 = (r : Int) := by rw [hr]; exact (Int.ofNat_tmod s 65536).symm
          have dj1 : ¬ (j = j1) := HV2.out.2.2.2.1
          have dj2 : ¬ (j1 = j) := fun h => dj1 h.symm
          have ffs := (own_cell HOB.out j (by have := HV2.out.2.2.2.2.1; have := HE.out.2; omega)).2
          have HRR := Lib.hid hr
          clear hr
          go_wp2
          go_roundw
          case rel =>
            obtain ⟨hx, hy, he, hp, hs, hj, hj1⟩ := HV.out
            obtain ⟨hq, hc, ht, hjj1, hjn', hj1n'⟩ := HV2.out
            have h1 := own_set (own_set HOB.out j1 t) j r
            have hst : ((E.set j s).set j1 t).set j r = tInner a b i (k + 1) E0 := by
              show _ = tStep a b i k (tInner a b i k E0)
              rw [← HE.out.1]
              unfold tStep
              simp only []
              rw [← hj, ← hj1, ← hx, ← hy, ← he, ← hp, ← hs, getD_set_ne E j j1 s hjj1, getD_set_self E j s hjn', ← hq, ← hc, ← ht, getD_set_ne (E.set j s) j1 j t (fun h => hjj1 h.symm), getD_set_self E j s hjn', ← HRR.out]
            rw [hst] at h1
            exact ⟨k + 1, by omega, by go_num, h1, ((HBB.out.setCell (Nat.le_refl _) _).setCell (Nat.le_refl _) _).drew⟩
          case measure =>
            simp only [intOf]
            omega
        · have hkn : k = nb := by omega
          have HK := Lib.hid hkn
          clear hkn
          go_wp2
          go_roundw
          case rel =>
            have h1 := HO.out
            rw [HE.out.1, HK.out, HL.out.2.1, HE0.out] at h1
            have := HLT.out
            exact ⟨i + 1, by omega, by go_num, h1, HB.out⟩
          case measure =>
            have := HLT.out
            simp only [intOf]
            omega
    · have hin : i = na := by omega
      have HI := Lib.hid hin
      have bin : ¬ ((i : Int) < (na : Int)) := by omega
      clear hin hlt
      obtain ⟨E1, hE1⟩ : ∃ E, E = tOuter a b a.length (List.replicate n 0) := ⟨_, rfl⟩
      have hoE : wr.ownsRow G 28 1 (.slice (some ⟨G, 0, none⟩) n n) n (ns (tCarry 0 E1)) := by
        have h1 := HO.out
        rw [HE0.out, HI.out, HL.out.1, ← hE1] at h1
        exact h1
      have HO2 := Lib.hid hoE
      have HE1 := Lib.hid hE1
      clear hoE hE1 HO
      rename World => wy
      have hnI : (n : Int) ≤ 201 := by omega
      go_wp2
      go_loopw [8] (fun v8 wr => ∃ u : Nat, u + 1 ≤ n ∧ v8 = .int .i64 (u : Int) ∧ wr.ownsRow G 28 1 (.slice (some ⟨G, 0, none⟩) n n) n (ns (tCarry u E1)) ∧ Below G w wr)
        (fun v _ => n - (intOf v).toNat)
      case atStart => exact ⟨0, by omega, rfl, HO2.out, HB.out⟩
      case round =>
        clear HO2 HB
        obtain ⟨u, hun, rfl, ho, hb⟩ := hrel
        obtain ⟨E, hE⟩ : ∃ E, E = tCarry u E1 := ⟨_, rfl⟩
        rw [← hE] at ho
        have hEl : E.length = n := by have := ho.1; simpa using this
        have HO := Lib.hid ho
        have HB := Lib.hid hb
        have HE := Lib.hid (And.intro hE hEl)
        clear ho hb hE hEl
        obtain ⟨u1, hu1⟩ : ∃ x, x = u + 1 := ⟨_, rfl⟩
        have gu1 : IntKind.i64.wrap ((u : Int) + 1) = (u1 : Int) := by rw [IntKind.wrap_i64]; omega
        have bu : (u : Int) < (n : Int) := by omega
        by_cases hlt : u1 < n
        · have bu1 : (u1 : Int) < (n : Int) := by omega
          have dj1 : ¬ (u = u1) := by omega
          have dj2 : ¬ (u1 = u) := by omega
          obtain ⟨s, hs⟩ : ∃ x, x = E.getD u 0 := ⟨_, rfl⟩
          obtain ⟨q, hq⟩ : ∃ x, x = E.getD u1 0 := ⟨_, rfl⟩
          have fs : wr.cell? ⟨G, u, none⟩ = some (.int .u64 (s : Int)) := by rw [hs]; exact (own_cell HO.out u (by omega)).1
          have ffs := (own_cell HO.out u (by omega)).2
          have fq : wr.cell? ⟨G, u1, none⟩ = some (.int .u64 (q : Int)) := by rw [hq]; exact (own_cell HO.out u1 hlt).1
          have ffq := (own_cell HO.out u1 hlt).2
          obtain ⟨c, hc⟩ : ∃ c, c = s / 65536 := ⟨_, rfl⟩
          obtain ⟨t, ht⟩ : ∃ t, t = (q + c) % W64 := ⟨_, rfl⟩
          obtain ⟨r, hr⟩ : ∃ r, r = s % 65536 := ⟨_, rfl⟩
          have gc : (s : Int) / 65536 = (c : Int) := by omega
          have gcw : IntKind.u64.wrap ((q : Int) + IntKind.u64.wrap (c : Int)) = (t : Int) := by rw [IntKind.wrap_u64, IntKind.wrap_u64, ht]; unfold W64; omega
          have gt : IntKind.u64.wrap ((q : Int) + (c : Int)) = (t : Int) := by rw [IntKind.wrap_u64, ht]; unfold W64; omega
          have gr : (s : Int) % 65536 = (r : Int) := by omega
          have HV := Lib.hid (And.intro hs (And.intro hq (And.intro hc (And.intro ht (And.intro hr hu1)))))
          clear hs hq hc ht hr hu1
          go_wp2_with fail
          go_still_tail 15, (by kernel_rfl)
          change wpList _ _ _ _ _ wr.drew
          go_wp2
          go_roundw
          case rel =>
            obtain ⟨hs, hq, hc, ht, hr, hu1⟩ := HV.out
            have h1 := own_set (own_set HO.out u1 t) u r
            have hun' : u < E.length := by have := HE.out.2; omega
            have hst : (E.set u1 t).set u r = tCarry (u + 1) E1 := by
              show _ = cStep u (tCarry u E1)
              rw [← HE.out.1]
              unfold cStep
              simp only []
              rw [← hu1, ← hs, ← hq, ← hc, ← ht, getD_set_ne E u1 u t (fun h => dj1 h.symm), ← hs, ← hr]
            rw [hst] at h1
            refine ⟨u + 1, by omega, ?_, h1, ((HB.out.setCell (Nat.le_refl _) _).setCell (Nat.le_refl _) _).drew⟩
            rw [hu1]
          case measure =>
            have := HV.out.2.2.2.2.2
            simp only [intOf]
            omega
        · have hun1 : u = na + nb := by have := HL.out.2.2; omega
          have hfin : E = timesB a b := by
            rw [HE.out.1, hun1, HE1.out, HL.out.2.2, HL.out.1, HL.out.2.1]
            rfl
          have HF := Lib.hid hfin
          have b1 : ¬ ((u1 : Int) < (n : Int)) := by omega
          clear hfin hun1 hu1
          go_wp2
          go_ret
          refine ⟨_, rfl, ?_, by rw [← HG.out]; exact HB.out⟩
          have h1 := Rd.of_own HO.out
          have h2 : a.length + b.length + 1 = n := by have := HL.out; omega
          rw [h2, ← HF.out]
          exact h1
end Go.Proofs.Ytdljpgihfjpnjaa
