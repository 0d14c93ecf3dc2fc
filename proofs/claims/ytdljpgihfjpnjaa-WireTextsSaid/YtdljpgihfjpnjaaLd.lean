/- Layer 1's law: what is put is the chapter's bytes. -/
import Derived.Test.YtdljpgihfjpnjaaLc
namespace Go.Proofs.Ytdljpgihfjpnjaa
set_option linter.unusedVariables false
set_option linter.unusedSimpArgs false
open Go.RowKit

theorem num_any (n : Int) (w : World) : Calls Try.prog 16 #[.int .i64 n] w fun e w' => e = .returned (.int .i64 n) ∧ w = w' := by
  go_enter Try.func16, Try.ntmps16
  go_wp2
  go_ret
  exact ⟨rfl, rfl⟩

set_option maxRecDepth 100000 in
set_option maxHeartbeats 400000 in
theorem known_any (w : World) : Calls Try.prog 12 #[] w fun e w' => e = .returned (.bool true) ∧ Below w.heap.size w w' := by
  go_enter Try.func12, Try.ntmps12
  go_wp2_with fail
  refine (Number_any _ w.heap.size w.heap.size _ (IsW.new w) 258 (by decide) 2 (fun xs e => by cases e; simp)).mono ?_
  rintro e w1 ⟨rfl, h1, m1⟩
  have b1 : Below w.heap.size w w1 := ((Below.refl _ w).alloc (Nat.le_refl _) _).trans (m1.below (IsW.new w))
  clear m1
  have B1 := Lib.hid b1; clear b1
  go_wp2_with fail
  have e1 : wput (some []) (numB 258 2) = some [2, 1] := by decide
  rw [e1] at h1
  have hbx : Below w1.heap.size w1 (w1.alloc (.cells (bvs [7, 8]).toArray 5)) := (Below.refl _ _).alloc (Nat.le_refl _) _
  have hr := (BB.new w1 5 [7, 8]).rdAll (by simp [maxLen])
  refine (Blob_any _ w.heap.size w.heap.size _ [7, 8] (h1.fresh hbx) _ hr (Apart.new h1 hbx (by simp [Value.ownBlock])) (fun xs e => by cases e; simp)).mono ?_
  rintro e w2 ⟨rfl, h2, m2⟩
  have B2 : Hid (Below w.heap.size w w2) := (B1.out.trans (hbx.mono B1.out.size)).trans (m2.below (h1.fresh hbx))
  clear m2 hbx hr e1
  have e2 : wput (some [2, 1]) (blobB [7, 8]) = some [2, 1, 2, 0, 0, 0, 7, 8] := by decide
  rw [e2] at h2
  clear e2
  go_wp2_with fail
  refine (End_good _ w.heap.size w.heap.size _ h2 (by simp)).mono ?_
  rintro e w3 ⟨v3, rfl, h3, b3⟩
  have B3 : Hid (Below w.heap.size w w3) := B2.out.trans (b3.mono B2.out.size)
  clear b3 h1 h2
  have hconv := (Rd.of_own h3).conv 25 9 5 Try.underlying25 Try.underlying5 Try.underlying9
  clear h3
  go_wp2_with fail
  refine (num_any _ _).mono ?_
  rintro e w4 ⟨rfl, rfl⟩
  go_wp2
  go_ret
  exact ⟨rfl, B3.out⟩
theorem allB_snoc (l : List PartD) (k : Nat) (h : k < l.length) : allB (l.take (k + 1)) = allB (l.take k) ++ (partB (l[k]'h)).1 := by
  rw [List.take_succ_eq_append_getElem h]
  simp only [allB, List.map_append, List.map_cons, List.map_nil, List.flatten_append, List.flatten_cons, List.flatten_nil, List.append_nil]

theorem allOk_snoc (l : List PartD) (k : Nat) (h : k < l.length) : allOk (l.take (k + 1)) = (allOk (l.take k) && (partB (l[k]'h)).2) := by
  rw [List.take_succ_eq_append_getElem h]
  simp only [allOk, List.all_append, List.all_cons, List.all_nil, Bool.and_true]

theorem few_of (l : List PartD) (h : muchB l = false) : Few l := by
  simp only [muchB, Bool.or_eq_false_iff, decide_eq_false_iff_not, Nat.not_lt] at h
  refine ⟨h.1, ?_⟩
  have h2 := h.2
  rw [List.take_of_length_le (by omega)] at h2
  have h1 := h.1
  clear h
  have key : ∀ m : List PartD, partSum m ≤ 20000 → (m.map fun x => x.b.length).sum = partSum m := by
    intro m
    induction m with
    | nil => simp [partSum]
    | cons x m ih =>
      intro hm
      simp only [partSum, List.map_cons, List.sum_cons] at hm ih ⊢
      have := ih (by omega)
      omega
  rw [key l h2]; exact h2

theorem parts_h {w : World} {v : Value} {l : List PartD} (hl : Sl PartAt 36 w v l) : ∀ x ∈ l, x.h.length = 32 := by
  intro x hx
  obtain ⟨i, hi, rfl⟩ := List.getElem_of_mem hx
  rcases hl with ⟨rfl, _⟩ | ⟨b, off, c', he, hlc, hcm, hxx⟩
  · simp at hi
  · exact (hxx i _ (by simp [hi])).2.1

set_option maxRecDepth 100000 in
set_option maxHeartbeats 1000000 in
theorem writes_any (w : World) (v : Value) (l : List PartD) (hl : Sl PartAt 36 w v l) :
    Calls Try.prog 3 #[v] w fun e w' => e = .returned (.bool true) ∧ Below w.heap.size w w' := by
  obtain ⟨i0, hi, hz0, hz1, hz2⟩ := info_parts infoU8
  obtain ⟨a, c, rfl⟩ := hl.slice
  have Hl := Lib.hid hl
  cases hm : muchB l with
  | true =>
    go_enter Try.func3, Try.ntmps3
    go_wp2_with fail
    refine (much_any w _ l hl).mono ?_
    rintro e w1 ⟨rfl, rfl⟩
    rw [hm]
    clear hm
    go_wp2_with fail
    refine (known_any _).mono ?_
    rintro e w2 ⟨rfl, h2⟩
    go_wp2
    go_ret
    exact ⟨rfl, h2⟩
  | false =>
    have hf := few_of l hm
    have hl40 := hf.1
    go_enter Try.func3, Try.ntmps3
    go_wp2_with fail
    refine (much_any w _ l hl).mono ?_
    rintro e w1 ⟨rfl, rfl⟩
    rw [hm]
    clear hm
    have Hf := Lib.hid hf
    clear hl hf
    go_wp2
    go_loopw [3, 4, 5] (fun v3 v4 v5 wr => ∃ k : Nat, k ≤ l.length ∧ v5 = .int .i64 (k : Int) ∧ v4 = .bool (allOk (l.take k)) ∧ wr.ownsRow w.heap.size 5 1 v3 (allB (l.take k)).length (bvs (allB (l.take k))) ∧ Below w.heap.size w wr)
      (fun _ _ v _ => l.length - (intOf v).toNat)
    case atStart => exact ⟨0, Nat.zero_le _, rfl, rfl, World.ownsRow_nil _ _ _ _, Below.refl _ _⟩
    case round =>
      obtain ⟨k, hk, rfl, rfl, hown, hbl⟩ := hrel
      have hsz := hbl.size
      have Hbl := Lib.hid hbl; clear hbl
      by_cases hlt : k < l.length
      · rcases Hl.out with ⟨rfl, _⟩ | ⟨b, off, c', he, hlc, hcm, hx⟩
        · simp at hlt
        simp only [Value.slice.injEq, true_and] at he
        obtain ⟨rfl, rfl⟩ := he
        obtain ⟨h1, h2, vb, h3, h4⟩ := hx k l[k] (by simp [hlt])
        have hxb : l[k].b.length ≤ 20000 := Nat.le_trans (mem_le_sum l _ (List.getElem_mem hlt)) Hf.out.2
        have hh : ∀ x ∈ l, x.h.length = 32 := by
          intro x hx'
          obtain ⟨i, hi, rfl⟩ := List.getElem_of_mem hx'
          exact (hx i _ (by simp [hi])).2.1
        have hA : (allB (l.take k)).length ≤ 100000 := by
          have h1 := sum_le (l.take k) (fun x hx => hh x (List.mem_of_mem_take hx))
          have h2 := sum_take_le l k
          have h3 := Hf.out.1
          have h4 := Hf.out.2
          have h5 : (l.take k).length ≤ l.length := List.length_take_le' _ _
          omega
        have hB := partB_len l[k] h2
        have hwl : Rd wr 1 vb l[k].b.length (bvs l[k].b) ∧ At wr b (off + k * 36) (partCells l[k] vb) := ⟨h3.fresh Hbl.out, h4.fresh Hbl.out⟩
        have S1 := Lib.hid (allB_snoc l k hlt)
        have S2 := Lib.hid (allOk_snoc l k hlt)
        obtain ⟨x, hx'⟩ : ∃ x, x = l[k] := ⟨_, rfl⟩
        rw [← hx'] at h1 h2 h3 h4 hxb hwl S1 S2 hB
        generalize allB (l.take k) = A at *
        generalize allOk (l.take k) = O at *
        clear hx' hx hh h3 h4
        have hat := hwl.2
        have hrd := hwl.1
        clear hwl
        cases O
        all_goals
          go_wp2_with (with_reducible refine stopAt 27 ?_)
          refine Stop.go ?_
          refine wpList_load_agg rfl 32 (.tmp 26) rfl ⟨b, off + k * 36, none⟩ rfl (partCells x vb) _ hat.load Try.underlying32 rfl (by rw [partCells_length x vb h2]; exact infoPart) ?_
          go_wp2_with fail
          refine (bytes_any wr x vb hrd h1 h2 (by omega)).mono ?_
          rintro e w1 ⟨v1, rfl, hr1, hb1⟩
          have ho1 := own_fresh hown hb1
          have H1 : Hid (Below w.heap.size w w1) := Hbl.out.trans (hb1.mono hsz)
          have hs1 := H1.out.size
          clear hb1 hown hat hrd
          go_wp2_with (at_builtin; apply Stop.mk)
          refine Stop.go ?_
          refine wpList_append_rd _ rfl (.tmp 35) (.tmp 36) 25 rfl w.heap.size 5 i0 (.int .u8 0) 1 1 Try.underlying25 hi hz0 hz1 hz2 rfl (by decide) u3 A.length (bvs A) rfl ho1 v1 _ _ rfl hr1 (bvs_one _) (by unfold maxLen; omega) (by omega) hs1 ?_
          intro v' w2 hown' hgr _ _
          have H2 : Hid (Below w.heap.size w w2) := H1.out.grown hgr hs1 (fun j hj => (ho1.lt j hj).1)
          clear hgr hr1 ho1
          go_wp2
          go_roundw
          case rel =>
            refine ⟨k + 1, by omega, by go_num, by rw [S2.out]; rfl, ?_, H2.out⟩
            rw [S1.out, List.length_append, bvs_append]; exact hown'
          case measure => simp [intOf]; omega
      · have hkl : k = l.length := by omega
        subst hkl
        rw [List.take_of_length_le (Nat.le_refl _)] at hown ⊢
        have hlw : Sl PartAt 36 wr (.slice a l.length c) l := Hl.out.fresh PartAt.stays Hbl.out
        go_wp2_with fail
        refine (lput_any wr _ l hlw Hf.out).mono ?_
        rintro e w2 ⟨rfl, hw2, hb2⟩
        have hown2 := own_fresh hown hb2
        have H2 : Hid (Below w.heap.size w w2) := Hbl.out.trans (hb2.mono hsz)
        have hs2 := H2.out.size
        have hnew : Hid (∀ k, u3.ownBlock = some k → k < w2.heap.size) := fun j hj => (hown2.lt j hj).2
        clear hb2 hown hlw
        cases hO : allOk l with
        | false =>
          rw [show wst l = none by simp [wst, hO]] at hw2
          have HO := Lib.hid hO; clear hO
          go_wp2_with fail
          refine (End_bad _ _ _ hw2).mono ?_
          rintro e w3 ⟨rfl, rfl⟩
          go_wp2_with fail
          refine (num_any _ _).mono ?_
          rintro e w4 ⟨rfl, rfl⟩
          go_wp2_with fail
          refine (known_any _).mono ?_
          rintro e w5 ⟨rfl, hk5⟩
          go_wp2
          go_ret
          exact ⟨rfl, H2.out.trans (hk5.mono hs2)⟩
        | true =>
          rw [show wst l = some (allB l) by simp [wst, hO]] at hw2
          have HO := Lib.hid hO; clear hO
          have hA : (allB l).length ≤ 100000 := by
            have hh : ∀ x ∈ l, x.h.length = 32 := parts_h Hl.out
            have := wst_len l Hf.out hh l.length (allB l) (by rw [List.take_of_length_le (Nat.le_refl _)]; simp [wst, HO.out])
            have h1 := sum_le l hh
            have h2 := Hf.out
            have h3 := h2.1
            have h4 := h2.2
            omega
          go_wp2_with fail
          refine (End_good _ _ _ _ hw2 (by omega)).mono ?_
          rintro e w3 ⟨v3, rfl, ho3, hb3⟩
          have Hb3 := Lib.hid hb3
          have H3 : Hid (Below w.heap.size w w3) := H2.out.trans (hb3.mono hs2)
          have hs3 := hb3.size
          obtain ⟨a3, c3, rfl⟩ := own_slice ho3
          clear hb3
          go_wp2
          obtain ⟨wo, hwo⟩ : ∃ wo : World, wo = wr := ⟨_, rfl⟩
          subst hwo
          generalize allB l = A at *
          go_loopw [11] (fun v11 wr => ∃ (k : Nat) (ys : List UInt8), k ≤ A.length ∧ ys.length = A.length ∧ v11 = .int .i64 (k : Int) ∧ wr.ownsRow w2.heap.size 5 1 (.slice a3 A.length c3) A.length (bvs ys) ∧ Below w2.heap.size w3 wr)
            (fun v _ => A.length - (intOf v).toNat)
          case atStart => exact ⟨0, A, Nat.zero_le _, rfl, rfl, ho3, Below.refl _ _⟩
          case round =>
            obtain ⟨k, ys, hk, hy, rfl, hox, hbx⟩ := hrel
            have Hbx := Lib.hid hbx; clear hbx
            have Hy := Lib.hid hy; clear hy
            by_cases hlt : k < A.length
            · rcases BB.of_own hox with ⟨_, h0, _⟩ | ⟨g, S, rfl, hg2, hgS, hSc, hnc, hcm, hS⟩
              · omega
              have hck : wr.cell? ⟨g, k, none⟩ = some (bv (ys[k]'(by rw [Hy.out]; exact hlt))) := by
                rw [hox.cellAt k (by omega)]
                simp [bvs, Hy.out, hlt]
              have hfk := hox.frozenAt k
              have hc3m : A.length ≤ 9223372036854775807 := by omega
              generalize ys[k]'(by rw [Hy.out]; exact hlt) = y at *
              unfold bv at hck
              have hy8 := y.toNat_lt
              generalize y.toNat = yn at *
              have Hox := Lib.hid hox
              clear hgS hS hox
              go_wp2
              go_roundw
              case rel =>
                obtain ⟨z, hz⟩ : ∃ z : UInt8, bv z = .int .u8 (((yn : Int) + 1) % 256) := ⟨UInt8.ofNat (yn + 1), by rw [bv_ofNat]; simp⟩
                have hst := Hox.out.stored k (bv z)
                refine ⟨k + 1, ys.set k z, by omega, by simp [Hy.out], by go_num, ?_, ?_⟩
                · rw [← hz]
                  simpa [bvs, List.map_set] using hst.1
                · exact Hbx.out.setCell (p := ⟨g, k, none⟩) hg2 _
              case measure => simp [intOf]; omega
            · have hkA : k = A.length := by omega
              subst hkA
              have hbw : Below w2.heap.size w2 wr := Hb3.out.trans Hbx.out
              have hw4 := hw2.fresh hbw
              have hown4 := own_fresh hown2 hbw
              obtain ⟨au, cu, rfl⟩ := own_slice hown4
              have H4 : Hid (Below w.heap.size w wr) := H3.out.trans (Hbx.out.mono hs2)
              have hs4 := H4.out.size
              clear hbw hw2 hown2 hox ho3
              go_wp2_with fail
              refine (End_good _ _ _ _ hw4 (by omega)).mono ?_
              rintro e w5 ⟨v5, rfl, ho5, hb5⟩
              have hown5 := own_fresh hown4 hb5
              have H5 : Hid (Below w.heap.size w w5) := H4.out.trans (hb5.mono hs4)
              have hs5 := H5.out.size
              have hc1 := (Rd.of_own ho5).conv 25 9 5 Try.underlying25 Try.underlying5 Try.underlying9
              have hc2 := (Rd.of_own hown5).conv 25 9 5 Try.underlying25 Try.underlying5 Try.underlying9
              clear hb5 hw4 hown4 ho5 hown5
              go_wp2_with fail
              refine (num_any _ _).mono ?_
              rintro e w6 ⟨rfl, rfl⟩
              go_wp2_with fail
              refine (num_any _ _).mono ?_
              rintro e w6 ⟨rfl, rfl⟩
              go_wp2_with fail
              refine (known_any _).mono ?_
              rintro e w7 ⟨rfl, hk7⟩
              go_wp2
              go_ret
              exact ⟨rfl, H5.out.trans (hk7.mono hs5)⟩

end Go.Proofs.Ytdljpgihfjpnjaa
