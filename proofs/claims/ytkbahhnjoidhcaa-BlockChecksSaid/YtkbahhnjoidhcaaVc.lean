/- tx.Check: which of what is asked fails; amounts; the walk. -/
import Derived.Test.YtkbahhnjoidhcaaVb
import Derived.Test.YtkbahhnjoidhcaaVd
import Derived.Test.YtkbahhnjoidhcaaVw
namespace Go.Proofs.Ytkbahhnjoidhcaa
set_option linter.unusedVariables false
set_option linter.unusedSimpArgs false
open Go.RowKit

set_option maxRecDepth 100000 in
theorem chk4_1 (w : World) (p : Value) (B : Bool) (h : Calls Try.prog 46 #[p] w fun e w' => e = .returned (.bool B) ∧ Below w.heap.size w w') :
    Calls Try.prog 50 #[.func (.func 46) #[] #[p]] w fun e w' => e = .returned (.bool !B) ∧ Below w.heap.size w w' := by
  have H := Lib.hid h
  clear h
  go_enter Try.func50, Try.ntmps50
  go_wp2_with fail
  refine (H.out).mono ?_
  rintro e w' ⟨rfl, b⟩
  cases B
  · go_wp2
    go_ret
    exact ⟨rfl, b⟩
  · go_wp2
    go_ret
    exact ⟨rfl, b⟩

set_option maxRecDepth 100000 in
theorem chk4_2 (w : World) (p : Value) (B : Bool) (h : Calls Try.prog 47 #[p] w fun e w' => e = .returned (.bool B) ∧ Below w.heap.size w w') :
    Calls Try.prog 50 #[.func (.func 47) #[] #[p]] w fun e w' => e = .returned (.bool !B) ∧ Below w.heap.size w w' := by
  have H := Lib.hid h
  clear h
  go_enter Try.func50, Try.ntmps50
  go_wp2_with fail
  refine (H.out).mono ?_
  rintro e w' ⟨rfl, b⟩
  cases B
  · go_wp2
    go_ret
    exact ⟨rfl, b⟩
  · go_wp2
    go_ret
    exact ⟨rfl, b⟩

set_option maxRecDepth 100000 in
theorem chk4_3 (w : World) (p : Value) (B : Bool) (h : Calls Try.prog 48 #[p] w fun e w' => e = .returned (.bool B) ∧ Below w.heap.size w w') :
    Calls Try.prog 50 #[.func (.func 48) #[] #[p]] w fun e w' => e = .returned (.bool !B) ∧ Below w.heap.size w w' := by
  have H := Lib.hid h
  clear h
  go_enter Try.func50, Try.ntmps50
  go_wp2_with fail
  refine (H.out).mono ?_
  rintro e w' ⟨rfl, b⟩
  cases B
  · go_wp2
    go_ret
    exact ⟨rfl, b⟩
  · go_wp2
    go_ret
    exact ⟨rfl, b⟩

/-- What is asked of a transaction. -/
structure Asked (w : World) (g : Nat) (p : Value) (B1 B2 B3 : Bool) : Prop where
  c : ∀ w', Below w.heap.size w w' → Calls Try.prog 46 #[p] w' fun e w'' => e = .returned (.bool B1) ∧ Below w'.heap.size w' w''
  d : ∀ w', Below w.heap.size w w' → Calls Try.prog 47 #[p] w' fun e w'' => e = .returned (.bool B2) ∧ Below w'.heap.size w' w''
  e : ∀ w', Below w.heap.size w w' → Calls Try.prog 48 #[p] w' fun e w'' => e = .returned (.bool B3) ∧ Below w'.heap.size w' w''
  m : CB w 33 g [.func (.func 46) #[] #[p], .func (.func 47) #[] #[p], .func (.func 48) #[] #[p]]

set_option maxRecDepth 100000 in
set_option maxHeartbeats 4000000 in
theorem index3_any (w : World) (g : Nat) (p : Value) (B1 B2 B3 : Bool) (h : Asked w g p B1 B2 B3) :
    Calls Try.prog 85 #[.slice (some ⟨g, 0, none⟩) 3 3, .func (.func 50) #[] #[]] w fun e w' => e = .returned (.int .i64 (if B1 = false then 0 else if B2 = false then 1 else if B3 = false then 2 else -1)) ∧ Below w.heap.size w w' := by
  have H := Lib.hid h
  obtain ⟨R, hR⟩ : ∃ R : Int, R = if B1 = false then 0 else if B2 = false then 1 else if B3 = false then 2 else -1 := ⟨_, rfl⟩
  rw [← hR]
  have HR := Lib.hid hR
  clear h hR
  go_enter Try.func85, Try.ntmps85
  go_wp2
  go_loopw [8] (fun v8 wr => Below w.heap.size w wr ∧ ∃ k : Nat, k ≤ 3 ∧ v8 = .int .i64 (k : Int) ∧ (1 ≤ k → B1 = true) ∧ (2 ≤ k → B2 = true) ∧ (3 ≤ k → B3 = true))
    (fun v _ => 3 - (RowKit.intOf v).toNat)
  case atStart => exact ⟨Below.refl _ _, 0, by omega, rfl, fun h => by omega, fun h => by omega, fun h => by omega⟩
  case round =>
    obtain ⟨hb, k, hk, rfl, g1, g2, g3⟩ := hrel
    have HB := Lib.hid hb
    have K := Lib.hid (H.out.m.fresh hb)
    have HG := Lib.hid (And.intro g1 (And.intro g2 g3))
    clear hb g1 g2 g3
    have hk4 : k = 0 ∨ k = 1 ∨ k = 2 ∨ k = 3 := by omega
    clear hk
    rcases hk4 with rfl | rfl | rfl | rfl
    · have hc := K.out.cell 0 _ rfl
      have C := Lib.hid (chk4_1 wr p B1 (H.out.c wr HB.out))
      go_wp2_with fail
      refine (C.out).mono ?_
      rintro e w2 ⟨rfl, b2⟩
      have Q := Lib.hid (HB.out.tr b2)
      clear b2 hc
      cases B1
      · go_wp2
        go_ret
        exact ⟨by rw [HR.out]; rfl, Q.out⟩
      · go_wp2
        go_roundw
        case rel => exact ⟨Q.out, 1, by omega, rfl, by simp, by omega, by omega⟩
        case measure => simp only [RowKit.intOf]; omega
    · have hc := K.out.cell 1 _ rfl
      have C := Lib.hid (chk4_2 wr p B2 (H.out.d wr HB.out))
      go_wp2_with fail
      refine (C.out).mono ?_
      rintro e w2 ⟨rfl, b2⟩
      have Q := Lib.hid (HB.out.tr b2)
      clear b2 hc
      cases B2
      · go_wp2
        go_ret
        exact ⟨by rw [HR.out, HG.out.1 (by omega)]; rfl, Q.out⟩
      · go_wp2
        go_roundw
        case rel => exact ⟨Q.out, 2, by omega, rfl, fun _ => HG.out.1 (by omega), by simp, by omega⟩
        case measure => simp only [RowKit.intOf]; omega
    · have hc := K.out.cell 2 _ rfl
      have C := Lib.hid (chk4_3 wr p B3 (H.out.e wr HB.out))
      go_wp2_with fail
      refine (C.out).mono ?_
      rintro e w2 ⟨rfl, b2⟩
      have Q := Lib.hid (HB.out.tr b2)
      clear b2 hc
      cases B3
      · go_wp2
        go_ret
        exact ⟨by rw [HR.out, HG.out.1 (by omega), HG.out.2.1 (by omega)]; rfl, Q.out⟩
      · go_wp2
        go_roundw
        case rel => exact ⟨Q.out, 3, by omega, rfl, fun _ => HG.out.1 (by omega), fun _ => HG.out.2.1 (by omega), by simp⟩
        case measure => simp only [RowKit.intOf]; omega
    · go_wp2
      go_ret
      exact ⟨by rw [HR.out, HG.out.1 (by omega), HG.out.2.1 (by omega), HG.out.2.2 (by omega)]; rfl, HB.out⟩

theorem contains3_any (w : World) (g : Nat) (p : Value) (B1 B2 B3 : Bool) (h : Asked w g p B1 B2 B3) :
    Calls Try.prog 49 #[.slice (some ⟨g, 0, none⟩) 3 3, .func (.func 50) #[] #[]] w fun e w' => e = .returned (.bool !(B1 && B2 && B3)) ∧ Below w.heap.size w w' := by
  have C := Lib.hid (index3_any w g p B1 B2 B3 h)
  clear h
  go_enter Try.func49, Try.ntmps49
  go_wp2_with fail
  refine (C.out).mono ?_
  rintro e w2 ⟨rfl, b2⟩
  clear C
  cases B1 <;> cases B2 <;> cases B3
  all_goals
    simp only [if_true, Bool.true_eq_false, if_false, Bool.false_eq_true, reduceCtorEq]
    go_wp2
    go_ret
    exact ⟨rfl, b2⟩

/-- What a transaction's check says. -/
def okShape (x : TxD) : Prop := (1 ≤ x.ins.length ∧ x.ins.length ≤ 64) ∧ (1 ≤ x.outs.length ∧ x.outs.length ≤ 64) ∧ Short x.ins ∧ Unlike x.ins
instance (x : TxD) : Decidable (okShape x) := by unfold okShape; infer_instance
def amts (x : TxD) : List Int := x.outs.map (·.amt)
def checkE (x : TxD) : Int := if okShape x then (if ∃ o ∈ x.outs, o.amt = 0 then 5 else msumE (amts x)) else 2

end Go.Proofs.Ytkbahhnjoidhcaa
