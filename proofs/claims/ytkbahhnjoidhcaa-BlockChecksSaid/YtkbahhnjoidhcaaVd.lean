/- Amounts in all: the code's, the reference's: the walks. -/
import Derived.Test.YtkbahhnjoidhcaaXu
import Derived.WalkMore
namespace Go.Proofs.Ytkbahhnjoidhcaa
set_option linter.unusedVariables false
set_option linter.unusedSimpArgs false
open Go.RowKit

def msumF : Int → List Int → Option Int
  | n, [] => some n
  | n, a :: l => if a > 1125899906842624 then none else if n + a > 1125899906842624 then none else msumF (n + a) l
def msumN (l : List Int) : Int := match msumF 0 l with | some n => n | none => 0
def msumE (l : List Int) : Int := match msumF 0 l with | some _ => 0 | none => 5

theorem msumN_none {l : List Int} (h : msumF 0 l = none) : msumN l = 0 := by unfold msumN; rw [h]
theorem msumE_none {l : List Int} (h : msumF 0 l = none) : msumE l = 5 := by unfold msumE; rw [h]
theorem msumN_some {l : List Int} {n : Int} (h : msumF 0 l = some n) : msumN l = n := by unfold msumN; rw [h]
theorem msumE_some {l : List Int} {n : Int} (h : msumF 0 l = some n) : msumE l = 0 := by unfold msumE; rw [h]

theorem drop_at {α : Type} {l : List α} {k : Nat} {a : α} (hx : l[k]? = some a) : l.drop k = a :: l.drop (k + 1) := by
  obtain ⟨h1, h2⟩ := List.getElem?_eq_some_iff.1 hx
  rw [List.drop_eq_getElem_cons h1, h2]

def ints (l : List Int) : List Value := l.map (Value.int .u64)

theorem mmay_any (w : World) (a : Int) :
    Calls Try.prog 86 #[.int .u64 a] w fun e w' => e = .returned (.bool (decide (a ≤ 1125899906842624))) ∧ w = w' := by
  by_cases h : a ≤ 1125899906842624
  · rw [decide_eq_true h]
    go_enter Try.func86, Try.ntmps86
    go_wp2
    go_ret
    exact ⟨rfl, rfl⟩
  · rw [decide_eq_false h]
    go_enter Try.func86, Try.ntmps86
    go_wp2
    go_ret
    exact ⟨rfl, rfl⟩

set_option maxRecDepth 100000 in
set_option maxHeartbeats 4000000 in
theorem msum_any (w : World) (v : Value) (l : List Int) (h : Rd w 1 v l.length (ints l)) (hp : ∀ a ∈ l, 0 ≤ a) :
    Calls Try.prog 51 #[v] w fun e w' => e = .returned (.tuple #[.int .u64 (msumN l), .int .i64 (msumE l)]) ∧ Below w.heap.size w w' := by
  obtain ⟨a0, c0, rfl⟩ := h.slice
  obtain ⟨N, hN⟩ : ∃ N, N = l.length := ⟨_, rfl⟩
  rw [← hN] at h ⊢
  have bN' : (N : Int) ≤ 9223372036854775807 := rd_small' h
  have HI := Lib.hid h
  have HP := Lib.hid hp
  have HN := Lib.hid hN
  clear h hp hN
  obtain ⟨RN, hRN⟩ : ∃ r, r = msumN l := ⟨_, rfl⟩
  obtain ⟨RE, hRE⟩ : ∃ r, r = msumE l := ⟨_, rfl⟩
  rw [← hRN, ← hRE]
  have HR := Lib.hid (And.intro hRN hRE)
  clear hRN hRE
  go_enter Try.func51, Try.ntmps51
  go_wp2
  go_step3
  go_wp2
  go_step3
  go_wp2
  go_loopw [4, 9] (fun v4 v9 wr => Below w.heap.size w wr ∧ ∃ (k : Nat) (acc : Int), k ≤ N ∧ v9 = .int .i64 (k : Int) ∧ v4 = .int .u64 acc ∧ 0 ≤ acc ∧ acc ≤ 1125899906842624 ∧ msumF 0 l = msumF acc (l.drop k))
    (fun _ v _ => N - (RowKit.intOf v).toNat)
  case atStart => exact ⟨Below.refl _ _, 0, 0, Nat.zero_le _, rfl, rfl, by decide, by decide, by rw [List.drop_zero]⟩
  case round =>
    obtain ⟨hb, k, acc, hk, rfl, rfl, h0, hm, hs⟩ := hrel
    have HB := Lib.hid hb
    have HS := Lib.hid hs
    have HM := Lib.hid (And.intro h0 hm)
    clear hb hs h0 hm
    by_cases hlt : k < N
    · obtain ⟨a, ha⟩ : ∃ a, l[k]? = some a := ⟨_, List.getElem?_eq_getElem (by rw [← HN.out]; exact hlt)⟩
      obtain ⟨ad, c, he⟩ := rd_some HI.out (by omega)
      simp only [Value.slice.injEq, true_and] at he
      obtain ⟨rfl, rfl⟩ := he
      have hc : wr.cell? (ad.add k) = some (.int .u64 a) := by
        rcases (HI.out.fresh HB.out).2 with ⟨he, _⟩ | ⟨ad', c', he, _, _, hcc⟩
        · cases he
        · simp only [Value.slice.injEq, Option.some.injEq] at he
          obtain ⟨rfl, _, _⟩ := he
          exact hcc k _ (by simp [ints, ha])
      have ik : (k : Int) < (N : Int) := by omega
      have hd := drop_at ha
      have HA := Lib.hid (And.intro ha (And.intro (HP.out a (List.mem_of_getElem? ha)) hd))
      have HK := Lib.hid hlt
      clear ha hd hlt hk
      by_cases h1 : a ≤ 1125899906842624
      · have hmod : (acc + a) % 18446744073709551616 = acc + a := by have := HM.out; have := HA.out.2.1; omega
        have C1 := mmay_any wr a
        rw [decide_eq_true h1] at C1
        have C1 := Lib.hid C1
        have H1 := Lib.hid h1
        clear h1
        go_wp2_with fail
        refine (C1.out).mono ?_
        rintro e w2 ⟨rfl, rfl⟩
        clear hc
        by_cases h2 : acc + a ≤ 1125899906842624
        · have C2 := mmay_any wr (acc + a)
          rw [decide_eq_true h2] at C2
          have C2 := Lib.hid C2
          have H2 := Lib.hid h2
          clear h2
          go_wp2_with fail
          refine (C2.out).mono ?_
          rintro e w3 ⟨rfl, rfl⟩
          go_wp2
          go_roundw
          case rel => exact ⟨HB.out, k + 1, acc + a, HK.out, by go_num, rfl, by have := HM.out.1; have := HA.out.2.1; omega, H2.out, by
            rw [HS.out, HA.out.2.2, msumF, if_neg (by have := H1.out; omega), if_neg (by have := H2.out; omega)]⟩
          case measure => simp only [RowKit.intOf]; have := HK.out; omega
        · have C2 := mmay_any wr (acc + a)
          rw [decide_eq_false h2] at C2
          have C2 := Lib.hid C2
          have H2 := Lib.hid h2
          clear h2
          go_wp2_with fail
          refine (C2.out).mono ?_
          rintro e w3 ⟨rfl, rfl⟩
          go_wp2_with fail
          refine (C2.out).mono ?_
          rintro e w4 ⟨rfl, rfl⟩
          go_wp2
          try rw [Exit.noGoto_ret]
          go_ret2
          have hnone : msumF 0 l = none := by rw [HS.out, HA.out.2.2, msumF, if_neg (by have := H1.out; omega), if_pos (by have := H2.out; omega)]
          exact ⟨by rw [HR.out.1, HR.out.2, msumN_none hnone, msumE_none hnone] <;> rfl, HB.out⟩
      · have C1 := mmay_any wr a
        rw [decide_eq_false h1] at C1
        have C1 := Lib.hid C1
        have C2 := mmay_any wr 1125899906842625
        rw [decide_eq_false (by decide)] at C2
        have C2 := Lib.hid C2
        have H1 := Lib.hid h1
        clear h1
        go_wp2_with fail
        refine (C1.out).mono ?_
        rintro e w2 ⟨rfl, rfl⟩
        go_wp2_with fail
        refine (C2.out).mono ?_
        rintro e w3 ⟨rfl, rfl⟩
        go_wp2
        try rw [Exit.noGoto_ret]
        go_ret2
        have hnone : msumF 0 l = none := by rw [HS.out, HA.out.2.2, msumF, if_pos (by have := H1.out; omega)]
        exact ⟨by rw [HR.out.1, HR.out.2, msumN_none hnone, msumE_none hnone] <;> rfl, HB.out⟩
    · have ik : ¬ ((k : Int) < (N : Int)) := by omega
      have hkN : k = N := by omega
      have C2 := mmay_any wr acc
      rw [decide_eq_true HM.out.2] at C2
      have C2 := Lib.hid C2
      have hsome : Hid (msumF 0 l = some acc) := Lib.hid (by rw [HS.out, List.drop_of_length_le (by rw [← HN.out]; omega)]; rfl)
      clear hlt hk hkN
      go_wp2_with fail
      refine (C2.out).mono ?_
      rintro e w3 ⟨rfl, rfl⟩
      go_wp2
      try rw [Exit.noGoto_ret]
      go_ret2
      exact ⟨by rw [HR.out.1, HR.out.2, msumN_some hsome.out, msumE_some hsome.out] <;> rfl, HB.out⟩

set_option maxRecDepth 100000 in
set_option maxHeartbeats 4000000 in
theorem rmsum_any (w : World) (v : Value) (l : List Int) (h : Rd w 1 v l.length (ints l)) (hp : ∀ a ∈ l, 0 ≤ a) :
    Calls Try.prog 45 #[v] w fun e w' => e = .returned (.tuple #[.int .u64 (msumN l), .int .i64 (msumE l)]) ∧ Below w.heap.size w w' := by
  obtain ⟨a0, c0, rfl⟩ := h.slice
  obtain ⟨N, hN⟩ : ∃ N, N = l.length := ⟨_, rfl⟩
  rw [← hN] at h ⊢
  have bN' : (N : Int) ≤ 9223372036854775807 := rd_small' h
  have HI := Lib.hid h
  have HP := Lib.hid hp
  have HN := Lib.hid hN
  clear h hp hN
  obtain ⟨RN, hRN⟩ : ∃ r, r = msumN l := ⟨_, rfl⟩
  obtain ⟨RE, hRE⟩ : ∃ r, r = msumE l := ⟨_, rfl⟩
  rw [← hRN, ← hRE]
  have HR := Lib.hid (And.intro hRN hRE)
  clear hRN hRE
  go_enter Try.func45, Try.ntmps45
  go_wp2
  go_loopw [4, 5] (fun v4 v5 wr => Below w.heap.size w wr ∧ ∃ (k : Nat) (acc : Int), k ≤ N ∧ v5 = .int .i64 (k : Int) ∧ v4 = .int .u64 acc ∧ 0 ≤ acc ∧ acc ≤ 1125899906842624 ∧ msumF 0 l = msumF acc (l.drop k))
    (fun _ v _ => N - (RowKit.intOf v).toNat)
  case atStart => exact ⟨Below.refl _ _, 0, 0, Nat.zero_le _, rfl, rfl, by decide, by decide, by rw [List.drop_zero]⟩
  case round =>
    obtain ⟨hb, k, acc, hk, rfl, rfl, h0, hm, hs⟩ := hrel
    have HB := Lib.hid hb
    have HS := Lib.hid hs
    have HM := Lib.hid (And.intro h0 hm)
    clear hb hs h0 hm
    by_cases hlt : k < N
    · obtain ⟨a, ha⟩ : ∃ a, l[k]? = some a := ⟨_, List.getElem?_eq_getElem (by rw [← HN.out]; exact hlt)⟩
      obtain ⟨ad, c, he⟩ := rd_some HI.out (by omega)
      simp only [Value.slice.injEq, true_and] at he
      obtain ⟨rfl, rfl⟩ := he
      have hc : wr.cell? (ad.add k) = some (.int .u64 a) := by
        rcases (HI.out.fresh HB.out).2 with ⟨he, _⟩ | ⟨ad', c', he, _, _, hcc⟩
        · cases he
        · simp only [Value.slice.injEq, Option.some.injEq] at he
          obtain ⟨rfl, _, _⟩ := he
          exact hcc k _ (by simp [ints, ha])
      have ik : (k : Int) < (N : Int) := by omega
      have hd := drop_at ha
      have HA := Lib.hid (And.intro ha (And.intro (HP.out a (List.mem_of_getElem? ha)) hd))
      have HK := Lib.hid hlt
      clear ha hd hlt hk
      by_cases h1 : 1125899906842624 < a
      · have H1 := Lib.hid h1
        go_wp2
        go_ret2
        have hnone : msumF 0 l = none := by rw [HS.out, HA.out.2.2, msumF, if_pos (by have := H1.out; omega)]
        exact ⟨by rw [HR.out.1, HR.out.2, msumN_none hnone, msumE_none hnone] <;> rfl, HB.out⟩
      · have hmod : (acc + a) % 18446744073709551616 = acc + a := by have := HM.out; have := HA.out.2.1; omega
        have H1 := Lib.hid h1
        by_cases h2 : 1125899906842624 < acc + a
        · have H2 := Lib.hid h2
          go_wp2
          go_ret2
          have hnone : msumF 0 l = none := by rw [HS.out, HA.out.2.2, msumF, if_neg (by have := H1.out; omega), if_pos (by have := H2.out; omega)]
          exact ⟨by rw [HR.out.1, HR.out.2, msumN_none hnone, msumE_none hnone] <;> rfl, HB.out⟩
        · have H2 := Lib.hid h2
          go_wp2
          go_roundw
          case rel => exact ⟨HB.out, k + 1, acc + a, HK.out, by go_num, rfl, by have := HM.out.1; have := HA.out.2.1; omega, by have := H2.out; omega, by
            rw [HS.out, HA.out.2.2, msumF, if_neg (by have := H1.out; omega), if_neg (by have := H2.out; omega)]⟩
          case measure => simp only [RowKit.intOf]; have := HK.out; omega
    · have ik : ¬ ((k : Int) < (N : Int)) := by omega
      have hkN : k = N := by omega
      have hsome : Hid (msumF 0 l = some acc) := Lib.hid (by rw [HS.out, List.drop_of_length_le (by rw [← HN.out]; omega)]; rfl)
      clear hlt hk hkN
      go_wp2
      go_ret2
      exact ⟨by rw [HR.out.1, HR.out.2, msumN_some hsome.out, msumE_some hsome.out] <;> rfl, HB.out⟩

end Go.Proofs.Ytkbahhnjoidhcaa
