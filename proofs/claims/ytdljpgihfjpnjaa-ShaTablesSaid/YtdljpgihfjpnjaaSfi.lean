/- ShaTables: does a word fit: the walk. -/
import Derived.Test.YtdljpgihfjpnjaaSpw
namespace Go.Proofs.Ytdljpgihfjpnjaa
set_option linter.unusedVariables false
set_option linter.unusedSimpArgs false
open Go.RowKit Go.Lib

def fitB (p v pw K : Nat) : Bool := powB (dgF 4 (K * 4294967296 + v)) pw (32 * pw) p && !powB (moF (dgF 4 (K * 4294967296 + v))) pw (32 * pw) p

theorem moF_length (d : List Nat) : (moF d).length ≤ d.length + 1 := by
  induction d with
  | nil => simp [moF]
  | cons x l ih =>
    unfold moF
    split <;> simp <;> omega

set_option maxRecDepth 100000 in
set_option maxHeartbeats 1600000 in
theorem fits_any (w : World) (p v pw K : Nat) (hp : p < 18446744073709551616) (hv : v < 4294967296) (hp1 : 1 ≤ pw) (hp3 : pw ≤ 3) (hK : K ≤ 100)
    (hall : ∀ k, k < K → powB (dgF 4 (k + 1)) pw 0 p = true) (hend : powB (dgF 4 (K + 1)) pw 0 p = false) :
    Calls Try.prog 43 #[.int .u64 (p : Int), .int .u32 (v : Int), .int .i64 (pw : Int)] w fun e w' => e = .returned (.bool (fitB p v pw K)) ∧ Below w.heap.size w w' := by
  obtain ⟨R, hR⟩ : ∃ R, R = fitB p v pw K := ⟨_, rfl⟩
  obtain ⟨N, hN⟩ : ∃ N, N = K * 4294967296 + v := ⟨_, rfl⟩
  obtain ⟨M, hM⟩ : ∃ M, M = K * 4294967296 := ⟨_, rfl⟩
  have HCD : Hid (∀ w0 (n : Nat), n < 18446744073709551616 → Calls Try.prog 66 #[.int .u64 (n : Int)] w0 fun e w' => ∃ v, e = .returned v ∧ Rd w' 1 v (dgF 4 n).length (ns (dgF 4 n)) ∧ Below w0.heap.size w0 w') := Lib.hid fun w0 n hn => digits_any w0 n hn
  have HCP : Hid (∀ w0 vd d n (sh : Nat), n = d.length → Rd w0 1 vd n (ns d) → n ≤ 10 → sh ≤ 96 → Calls Try.prog 65 #[vd, .int .i64 (pw : Int), .int .i64 (sh : Int), .int .u64 (p : Int)] w0 fun e w' => e = .returned (.bool (powB d pw sh p)) ∧ Below w0.heap.size w0 w') :=
    Lib.hid fun w0 vd d n sh hn hd hl hs => pow_any w0 vd d pw sh p (hn ▸ hd) (hn ▸ hl) hp1 hp3 hs hp
  have HALL := Lib.hid (And.intro hall hend)
  have gs : IntKind.u64.wrap ((K : Int) * 4294967296) = (M : Int) := by rw [IntKind.wrap_u64, hM]; omega
  have gs1 : (K : Int) * 4294967296 = (M : Int) := by omega
  have gM : IntKind.u64.wrap (M : Int) = (M : Int) := by rw [IntKind.wrap_u64, hM]; omega
  have gv : IntKind.u64.wrap (v : Int) = (v : Int) := by rw [IntKind.wrap_u64]; omega
  have gN : IntKind.u64.wrap ((M : Int) + (v : Int)) = (N : Int) := by rw [IntKind.wrap_u64, hM, hN]; omega
  have hN64 : N < 18446744073709551616 := by omega
  obtain ⟨sh, hsh⟩ : ∃ sh, sh = 32 * pw := ⟨_, rfl⟩
  have gsh : IntKind.i64.wrap (32 * (pw : Int)) = (sh : Int) := by rw [IntKind.wrap_i64, hsh]; omega
  have hsh96 : sh ≤ 96 := by omega
  have hRc : R = (powB (dgF 4 N) pw sh p && !powB (moF (dgF 4 N)) pw sh p) := by rw [hR, hsh, hN]; rfl
  have HRC := Lib.hid hRc
  rw [← hR]
  clear hR hN hM hRc hall hend hsh
  go_enter Try.func43, Try.ntmps43
  go_wp2
  go_loopw [7] (fun v7 wr => ∃ k : Nat, k ≤ K ∧ v7 = .int .u64 (k : Int) ∧ Below w.heap.size w wr)
    (fun v _ => K - (intOf v).toNat)
  case atStart => exact ⟨0, by omega, rfl, Below.refl _ _⟩
  case round =>
    obtain ⟨k, hkK, rfl, hb⟩ := hrel
    have HB := Lib.hid hb
    clear hb
    have gk : IntKind.u64.wrap ((k : Int) + 1) = ((k + 1 : Nat) : Int) := by rw [IntKind.wrap_u64]; omega
    go_wp2_with fail
    refine (HCD.out wr (k + 1) (by omega)).mono ?_
    rintro e w2 ⟨v2, rfl, hr2, hb2⟩
    obtain ⟨a2, c2, rfl⟩ := hr2.slice
    obtain ⟨n2, hn2⟩ : ∃ n, n = (dgF 4 (k + 1)).length := ⟨_, rfl⟩
    rw [← hn2] at hr2 ⊢
    have HR2 := Lib.hid (And.intro hr2 hn2)
    have HB2 := Lib.hid (HB.out.trans (hb2.mono HB.out.size))
    clear hr2 hb2 hn2
    go_wp2_with fail
    refine (HCP.out w2 _ (dgF 4 (k + 1)) n2 0 HR2.out.2 HR2.out.1 (by have := dgF_length 4 (k + 1); have := HR2.out.2; omega) (by omega)).mono ?_
    rintro e w3 ⟨rfl, hb3⟩
    have HB3 := Lib.hid (HB2.out.trans (hb3.mono HB2.out.size))
    clear hb3 HB2
    by_cases hlt : k < K
    · rw [HALL.out.1 k hlt]
      have HLT := Lib.hid hlt
      clear hlt
      go_wp2
      go_roundw
      case rel => exact ⟨k + 1, HLT.out, rfl, HB3.out⟩
      case measure => have := HLT.out; simp only [intOf]; omega
    · obtain rfl : k = K := by omega
      rw [HALL.out.2]
      clear hlt
      go_wp2_with fail
      refine (HCD.out w3 N hN64).mono ?_
      rintro e w4 ⟨v4, rfl, hr4, hb4⟩
      obtain ⟨a4, c4, rfl⟩ := hr4.slice
      obtain ⟨D, hD⟩ : ∃ D, D = dgF 4 N := ⟨_, rfl⟩
      obtain ⟨n4, hn4⟩ : ∃ n, n = D.length := ⟨_, rfl⟩
      rw [← hD, ← hn4] at hr4
      rw [← hD, ← hn4]
      have hn44 : n4 ≤ 4 := by rw [hn4, hD]; exact dgF_length 4 N
      have HR4 := Lib.hid (And.intro hr4 hn4)
      have HB4 := Lib.hid (HB3.out.trans (hb4.mono HB3.out.size))
      have HD := Lib.hid hD
      clear hr4 hb4 hn4 HB3 hD
      go_wp2_with fail
      refine (HCP.out w4 _ D n4 sh HR4.out.2 HR4.out.1 (by omega) hsh96).mono ?_
      rintro e w5 ⟨rfl, hb5⟩
      have HR5 := Lib.hid (And.intro (HR4.out.1.fresh hb5) HR4.out.2)
      have HB5 := Lib.hid (HB4.out.trans (hb5.mono HB4.out.size))
      clear hb5 HB4
      obtain ⟨b1, hb1⟩ : ∃ b, b = powB D pw sh p := ⟨_, rfl⟩
      rw [← hb1]
      have HB1 := Lib.hid hb1
      clear hb1
      cases b1 with
      | false =>
        go_wp2
        go_ret
        refine ⟨?_, HB5.out⟩
        have h1 := HRC.out
        rw [← HD.out, ← HB1.out] at h1
        rw [h1]; rfl
      | true =>
        go_wp2_with fail
        refine (more_any w5 (.slice a4 n4 c4) D (by rw [← HR5.out.2]; exact HR5.out.1) (by have := HR5.out.2; omega)).mono ?_
        rintro e w6 ⟨v6, rfl, hr6, hb6⟩
        obtain ⟨a6, c6, rfl⟩ := hr6.slice
        obtain ⟨n6, hn6⟩ : ∃ n, n = (moF D).length := ⟨_, rfl⟩
        rw [← hn6] at hr6 ⊢
        have hn66 : n6 ≤ 5 := by have := moF_length D; have := HR5.out.2; omega
        have HR6 := Lib.hid (And.intro hr6 hn6)
        have HB6 := Lib.hid (HB5.out.trans (hb6.mono HB5.out.size))
        clear hr6 hb6 hn6 HB5
        go_wp2_with fail
        refine (HCP.out w6 _ (moF D) n6 sh HR6.out.2 HR6.out.1 (by omega) hsh96).mono ?_
        rintro e w7 ⟨rfl, hb7⟩
        have HB7 := Lib.hid (HB6.out.trans (hb7.mono HB6.out.size))
        clear hb7 HB6
        obtain ⟨b2, hb2⟩ : ∃ b, b = powB (moF D) pw sh p := ⟨_, rfl⟩
        rw [← hb2]
        have HB2 := Lib.hid hb2
        clear hb2
        cases b2 <;> go_wp2 <;> go_ret
        all_goals
          refine ⟨?_, HB7.out⟩
          have h1 := HRC.out
          rw [← HD.out, ← HB1.out, ← HB2.out] at h1
          rw [h1]; rfl

end Go.Proofs.Ytdljpgihfjpnjaa
