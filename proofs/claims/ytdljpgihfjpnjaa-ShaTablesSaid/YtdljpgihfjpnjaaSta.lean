/- ShaTables: the law's walk. -/
import Derived.Test.YtdljpgihfjpnjaaStc
import Derived.Test.YtdljpgihfjpnjaaPlan
import Derived.Test.YtdljpgihfjpnjaaSx
namespace Go.Proofs.Ytdljpgihfjpnjaa
set_option linter.unusedVariables false
set_option linter.unusedSimpArgs false
open Go.RowKit Go.Lib

theorem primes_len : primes64.length = 64 := rfl

set_option maxRecDepth 100000 in
set_option maxHeartbeats 3200000 in
theorem tables_any (w : World) :
    Calls Try.prog 9 #[] w fun e w' => e = .returned (.bool true) ∧ Below w.heap.size w w' := by
  obtain ⟨i0, hi, hz0, hz1, hz2⟩ := info_parts infoU64
  obtain ⟨H, hH⟩ : ∃ H, H = w.heap.size := ⟨_, rfl⟩
  rw [← hH]
  have HH := Lib.hid hH
  go_enter Try.func9, Try.ntmps9
  go_wp2
  go_loopw [1, 2] (fun v1 v2 wr => ∃ x : Nat, 1 ≤ x ∧ x ≤ 310 ∧ v2 = .int .u64 ((x + 2 : Nat) : Int) ∧ wr.ownsRow H 28 1 v1 (pr x).length (ns (pr x)) ∧ Below H w wr)
    (fun _ v _ => 320 - (intOf v).toNat)
  case atStart =>
    refine ⟨1, by omega, by omega, rfl, ?_, ?_⟩
    · have h1 := World.ownsRow_lit (base := H) (e := 28) (size := 1) w #[.int .u64 2] 1 (by omega) (by decide) rfl
      exact h1
    · exact (hH ▸ Below.refl _ _ : Below H w w).alloc (by omega) _
  case round =>
    clear hH
    obtain ⟨x, hx1, hx, rfl, ho, hb⟩ := hrel
    obtain ⟨a1, c1, rfl⟩ := own_slice ho
    have Hb := Lib.hid hb; clear hb
    have hll := pr_len x
    obtain ⟨M, hM⟩ : ∃ M, M = (pr x).length := ⟨_, rfl⟩
    have hM' : M ≤ 1000 := by omega
    have HM := Lib.hid hM
    rw [← hM] at ho ⊢
    have Ho := Lib.hid ho; clear ho
    clear hM hll
    obtain ⟨y, hy⟩ : ∃ y, y = x + 2 := ⟨_, rfl⟩
    rw [← hy]
    have HY := Lib.hid hy; clear hy
    have gy : IntKind.u64.wrap ((y : Int) + 1) = ((y + 1 : Nat) : Int) := by have := HY.out; rw [IntKind.wrap_u64]; omega
    by_cases hlt : M < 64
    · have hxB : Hid (x < 310) := by
        refine Lib.hid ?_
        rcases Nat.lt_or_ge x 310 with h | h
        · exact h
        · have : x = 310 := by omega
          have h1 := HM.out
          rw [this, pr310, primes_len] at h1
          omega
      have bM : (M : Int) < 64 := by omega
      have HLT := Lib.hid hlt
      clear hlt
      rename World => wr0
      go_wp2
      go_loopw [3, 4] (fun v3 v4 wr => wr = wr0 ∧ ∃ (k : Nat) (b : Bool), k ≤ M ∧ v4 = .int .i64 (k : Int) ∧ v3 = .bool b ∧ (b = true ↔ ∀ j, j < k → y % (pr x).getD j 0 ≠ 0))
        (fun _ v _ => M - (intOf v).toNat)
      case atStart => exact ⟨rfl, 0, true, by omega, rfl, rfl, ⟨fun _ j hj => by omega, fun _ => rfl⟩⟩
      case round =>
        obtain ⟨rfl, k, b, hk, rfl, rfl, hnd⟩ := hrel
        have Hnd := Lib.hid hnd; clear hnd
        by_cases hkM : k < M
        · have bk : (k : Int) < (M : Int) := by omega
          cases b with
          | false =>
            have HKM := Lib.hid hkM
            clear hkM
            go_wp2
            go_roundw
            case rel =>
              refine ⟨trivial, k + 1, false, HKM.out, by go_num, rfl, ?_⟩
              constructor
              · intro h; cases h
              · intro h
                exact Hnd.out.2 fun j hj => h j (by omega)
            case measure => have := HKM.out; simp only [intOf]; omega
          | true =>
            rcases (Rd.of_own Ho.out).2 with ⟨he, h0⟩ | ⟨ad, c', he, _, _, hcell⟩
            · omega
            simp only [Value.slice.injEq, true_and] at he
            obtain ⟨rfl, rfl⟩ := he
            obtain ⟨q, hq⟩ : ∃ q, q = (pr x).getD k 0 := ⟨_, rfl⟩
            have fk : wr.cell? (ad.add k) = some (.int .u64 (q : Int)) := by
              rw [hq]
              exact hcell k _ (ns_get _ _ (by have := HM.out; omega))
            have hq2 : 2 ≤ q := by
              rw [hq]
              refine (pr_bound x _ ?_).1
              have : k < (pr x).length := by have := HM.out; omega
              simp [List.getD_eq_getElem?_getD, this]
            have hq0 : ¬ ((q : Int) = 0) := by omega
            obtain ⟨Z, hZ⟩ : ∃ Z, Z = y % q := ⟨_, rfl⟩
            have g1 : (y : Int).tmod (q : Int) = (Z : Int) := by rw [hZ]; exact (Int.ofNat_tmod y q).symm
            have HZ := Lib.hid hZ
            have HQ := Lib.hid hq
            have HKM := Lib.hid hkM
            clear hZ hq hcell hkM
            by_cases hz : Z = 0
            · subst hz
              go_wp2
              go_roundw
              case rel =>
                refine ⟨trivial, k + 1, false, HKM.out, by go_num, rfl, ?_⟩
                constructor
                · intro h; cases h
                · intro h
                  have h1 := h k (by omega)
                  rw [← HQ.out, ← HZ.out] at h1
                  exact absurd rfl h1
              case measure => have := HKM.out; simp only [intOf]; omega
            · have hzi : ¬ ((Z : Int) = 0) := by omega
              have HZN := Lib.hid hz
              clear hz
              go_wp2
              go_roundw
              case rel =>
                refine ⟨trivial, k + 1, true, HKM.out, by go_num, by rw [show ((Z : Int) != 0) = true from bne_iff_ne.2 hzi], ?_⟩
                refine ⟨fun _ j hj => ?_, fun _ => rfl⟩
                rcases Nat.lt_or_ge j k with h | h
                · exact Hnd.out.1 (by simp) j h
                · have : j = k := by omega
                  rw [this, ← HQ.out, ← HZ.out]
                  exact HZN.out
              case measure => have := HKM.out; simp only [intOf]; omega
        · have hkk : k = M := by omega
          have HK := Lib.hid hkk
          have bk : ¬ ((k : Int) < (M : Int)) := by omega
          clear hkk hkM
          cases b with
          | false =>
            go_wp2
            go_roundw
            case rel =>
              have hd : divs (pr x) (x + 2) = true := by
                rw [← Bool.not_eq_false]
                intro h
                unfold divs at h
                rw [List.any_eq_false] at h
                have h1 := Hnd.out.2 fun j hj => by
                  have hk' : j < (pr x).length := by have := HK.out; have := HM.out; omega
                  have h2 := h (pr x)[j] (List.getElem_mem hk')
                  rw [HY.out]
                  simpa [List.getD_eq_getElem?_getD, hk'] using h2
                cases h1
              have hp : pr (x + 1) = pr x := by
                show (if divs (pr x) (x + 2) then pr x else _) = _
                rw [if_pos hd]
              refine ⟨x + 1, by omega, hxB.out, by have := HY.out; simp only [Value.int.injEq, true_and]; omega, ?_, Hb.out⟩
              rw [hp, ← HM.out]
              exact Ho.out
            case measure =>
              have := HY.out
              have := hxB.out
              simp only [intOf]
              omega
          | true =>
            go_wp2_with (at_builtin; apply Stop.mk)
            refine Stop.go ?_
            have h63 : M + 1 ≤ maxLen := by unfold maxLen; omega
            have hbs : H ≤ (wr.alloc (.cells #[.int .u64 (y : Int)] 28)).heap.size := by
              have h1 := Hb.out.size
              have h2 : (wr.alloc (.cells #[.int .u64 (y : Int)] 28)).heap.size = wr.heap.size + 1 := Array.size_push _
              have h3 := HH.out
              omega
            refine wpList_append_rd _ rfl (.tmp 29) (.tmp 31) 74 rfl H 28 i0 (.int .u64 0) 1 8 Try.underlying74 hi hz0 hz1 hz2 rfl (by decide) (.slice a1 M c1) M (ns (pr x)) rfl (Ho.out.alloc _) _ 1 [nv y] rfl (rd_one wr _ _) (ns_one [y]) h63 (by omega) hbs ?_
            intro v' w' hown hgr _ hgrew
            have hHr : H ≤ wr.heap.size := by have := HH.out; have := Hb.out.size; omega
            have Hbl : Hid (Below H w w') := Below.grown (Hb.out.alloc hHr _) hgr hbs (own_base Ho.out)
            have Hown := Lib.hid hown
            clear hown hgr hgrew hbs h63 hHr
            go_wp2
            go_roundw
            case rel =>
              have hd : divs (pr x) (x + 2) = false := by
                rw [← Bool.not_eq_true]
                intro h
                unfold divs at h
                rw [List.any_eq_true] at h
                obtain ⟨q, hq, hz⟩ := h
                obtain ⟨j, hj, rfl⟩ := List.getElem_of_mem hq
                have h1 := Hnd.out.1 (by simp) j (by have := HK.out; have := HM.out; omega)
                rw [HY.out] at h1
                simp [List.getD_eq_getElem?_getD, hj] at h1
                simp at hz
                exact h1 hz
              have hp : pr (x + 1) = pr x ++ [x + 2] := by
                show (if divs (pr x) (x + 2) then pr x else _) = _
                rw [hd]
                rfl
              refine ⟨x + 1, by omega, hxB.out, by have := HY.out; simp only [Value.int.injEq, true_and]; omega, ?_, Hbl.out⟩
              rw [hp]
              have h1 := Hown.out
              rw [HM.out, HY.out] at h1
              simpa [ns] using h1
            case measure =>
              have := HY.out
              have := hxB.out
              simp only [intOf]
              omega
    · have hpe : pr x = primes64 := by
        rw [← pr310]
        refine pr_eq x 310 hx ?_
        rw [pr310, primes_len, ← HM.out]
        omega
      obtain rfl : M = 64 := by
        rw [HM.out, hpe]; rfl
      have hr0 : Rd wr 1 (.slice a1 64 c1) 64 (ns primes64) := by
        have h1 := Rd.of_own Ho.out
        rw [hpe] at h1
        exact h1
      have HR0 := Lib.hid hr0
      clear hpe hlt hr0 Ho HM HY hx hx1
      rcases HR0.out.2 with ⟨_, h0⟩ | ⟨ad, ca, hea, _, _, hca⟩
      · omega
      simp only [Value.slice.injEq, true_and] at hea
      obtain ⟨rfl, rfl⟩ := hea
      rename World => w1
      go_wp2
      go_loopw [5] (fun v5 wr => ∃ i : Nat, i ≤ 64 ∧ v5 = .int .i64 (i : Int) ∧ Below w1.heap.size w1 wr)
        (fun v _ => 64 - (intOf v).toNat)
      case atStart => exact ⟨0, by omega, rfl, Below.refl _ _⟩
      case round =>
        obtain ⟨i, hi64, rfl, hb⟩ := hrel
        by_cases hlt : i < 64
        · have bi : (i : Int) < 64 := by omega
          have hr1 : Rd wr 1 (.slice (some ad) 64 c1) 64 (ns primes64) := HR0.out.fresh hb
          have HB1 := Lib.hid hb
          have HR1 := Lib.hid hr1
          obtain ⟨p, hp⟩ : ∃ p, p = primes64.getD i 0 := ⟨_, rfl⟩
          obtain ⟨cw, hcw⟩ : ∃ c, c = KS.getD i 0 := ⟨_, rfl⟩
          have HCC := Lib.hid fun w0 => (cube_const w0 hlt)
          have HCF := Lib.hid fun w0 => (cube_call w0 hlt)
          rw [← hcw] at HCC
          rw [← hp, ← hcw] at HCF
          have HP := Lib.hid hp
          clear hp hcw hca hb hr1
          have HLT := Lib.hid hlt
          have hS : Hid (∀ w0, Rd w0 1 (.slice (some ad) 64 c1) 64 (ns primes64) → w0.cell? (ad.add i) = some (.int .u64 (p : Int))) := by
            refine Lib.hid ?_
            intro w0 h0
            rcases h0.2 with ⟨_, h0⟩ | ⟨ad', ca', hea, _, _, hca⟩
            · omega
            simp only [Value.slice.injEq, Option.some.injEq, true_and] at hea
            obtain ⟨rfl, rfl⟩ := hea
            rw [HP.out]
            exact hca i _ (ns_get _ _ hlt)
          clear hlt
          have HS0 : Rd wr.drew 1 (.slice (some ad) 64 c1) 64 (ns primes64) := HR1.out
          have HB0 : Hid (Below w1.heap.size w1 wr.drew) := Lib.hid HB1.out.drew
          have HSh := Lib.hid HS0
          clear HS0 HR1
          by_cases h8 : i < 8
          · have b8 : (i : Int) < 8 := by omega
            obtain ⟨sw, hsw⟩ : ∃ c, c = S0.l.getD i 0 := ⟨_, rfl⟩
            have HSC := Lib.hid fun w0 => (square_start w0 h8)
            have HSF := Lib.hid fun w0 => (square_call w0 h8)
            rw [← hsw] at HSC
            rw [← HP.out, ← hsw] at HSF
            clear hsw h8
            go_wp2_with fail
            refine pl_start 22 rfl (fun w' => Rd w' 1 (.slice (some ad) 64 c1) 64 (ns primes64)) (by kernel_rfl) ?_
            refine pl_take (i := 0) 37 rfl rfl rfl (by kernel_rfl) (by kernel_rfl) (by kernel_rfl) (by simp [Act.put]) HSh.out ?_
            apply Exists.intro
            refine And.intro (fun w' hw' => ?_) ?_
            · clear hw'
              go_wp2
              first
                | exact ⟨trivial, rfl⟩
                | exact rfl
            refine pl_take (i := 1) 38 rfl rfl rfl (by kernel_rfl) (by kernel_rfl) (by kernel_rfl) (by simp [Act.put]) HSh.out ?_
            apply Exists.intro
            refine And.intro (fun w' hw' => ?_) ?_
            · clear hw'
              go_wp2
              first
                | exact ⟨trivial, rfl⟩
                | exact rfl
            refine pl_take (i := 2) 39 rfl rfl rfl (by kernel_rfl) (by kernel_rfl) (by kernel_rfl) (by simp [Act.put]) HSh.out ?_
            apply Exists.intro
            refine And.intro (fun w' hw' => ?_) ?_
            · clear hw'
              go_wp2
              first
                | exact ⟨trivial, rfl⟩
                | exact rfl
            refine pl_take (i := 3) 40 rfl rfl rfl (by kernel_rfl) (by kernel_rfl) (by kernel_rfl) (by simp [Act.put]) HSh.out ?_
            apply Exists.intro
            refine And.intro (fun w' hw' => ?_) ?_
            · have fa := hS.out _ hw'
              clear hw'
              go_wp2
              first
                | exact ⟨trivial, rfl⟩
                | exact rfl
            refine pl_take (i := 4) 41 rfl rfl rfl (by kernel_rfl) (by kernel_rfl) (by kernel_rfl) (by simp [Act.put]) HSh.out ?_
            apply Exists.intro
            refine And.intro (fun w' hw' => ?_) ?_
            · clear hw'
              go_wp2
              first
                | exact ⟨trivial, rfl⟩
                | exact rfl
            refine pl_heavy (i := 5) rfl (by kernel_rfl) ?_
            go_wp2_with fail
            refine (HCC.out _).mono ?_
            rintro e W1 ⟨rfl, hb⟩
            have HSh1 := Lib.hid (HSh.out.fresh hb)
            have HB1' := Lib.hid (HB0.out.trans (hb.mono HB0.out.size))
            clear hb
            go_wp2
            refine And.intro HSh1.out ?_
            refine pl_heavy (i := 6) rfl (by kernel_rfl) ?_
            go_wp2_with fail
            refine (HCF.out _).mono ?_
            rintro e W2 ⟨rfl, hb⟩
            have HSh2 := Lib.hid (HSh1.out.fresh hb)
            have HB2' := Lib.hid (HB1'.out.trans (hb.mono HB1'.out.size))
            clear hb
            go_wp2
            refine And.intro HSh2.out ?_
            refine pl_take (i := 7) 44 rfl rfl rfl (by kernel_rfl) (by kernel_rfl) (by kernel_rfl) (by simp [Act.put]) HSh2.out ?_
            apply Exists.intro
            refine And.intro (fun w' hw' => ?_) ?_
            · clear hw'
              go_wp2
              first
                | exact ⟨trivial, rfl⟩
                | exact rfl
            refine pl_take (i := 8) 45 rfl rfl rfl (by kernel_rfl) (by kernel_rfl) (by kernel_rfl) (by simp [Act.put]) HSh2.out ?_
            apply Exists.intro
            refine And.intro (fun w' hw' => ?_) ?_
            · clear hw'
              go_wp2
              first
                | exact ⟨trivial, rfl⟩
                | exact rfl
            refine pl_take (i := 9) 46 rfl rfl rfl (by kernel_rfl) (by kernel_rfl) (by kernel_rfl) (by simp [Act.put]) HSh2.out ?_
            apply Exists.intro
            refine And.intro (fun w' hw' => ?_) ?_
            · clear hw'
              go_wp2
              first
                | exact ⟨trivial, rfl⟩
                | exact rfl
            refine pl_take (i := 10) 47 rfl rfl rfl (by kernel_rfl) (by kernel_rfl) (by kernel_rfl) (by simp [Act.put]) HSh2.out ?_
            apply Exists.intro
            refine And.intro (fun w' hw' => ?_) ?_
            · clear hw'
              go_wp2
              first
                | exact ⟨trivial, rfl⟩
                | exact rfl
            refine pl_take (i := 11) 48 rfl rfl rfl (by kernel_rfl) (by kernel_rfl) (by kernel_rfl) (by simp [Act.put]) HSh2.out ?_
            apply Exists.intro
            refine And.intro (fun w' hw' => ?_) ?_
            · clear hw'
              go_wp2
              first
                | exact ⟨trivial, rfl⟩
                | exact rfl
            refine pl_take (i := 12) 49 rfl rfl rfl (by kernel_rfl) (by kernel_rfl) (by kernel_rfl) (by simp [Act.put]) HSh2.out ?_
            apply Exists.intro
            refine And.intro (fun w' hw' => ?_) ?_
            · clear hw'
              go_wp2
              first
                | exact ⟨trivial, rfl⟩
                | exact rfl
            refine pl_take (i := 13) 50 rfl rfl rfl (by kernel_rfl) (by kernel_rfl) (by kernel_rfl) (by simp [Act.put]) HSh2.out ?_
            apply Exists.intro
            refine And.intro (fun w' hw' => ?_) ?_
            · clear hw'
              go_wp2
              first
                | exact ⟨trivial, rfl⟩
                | exact rfl
            refine pl_take (i := 14) 51 rfl rfl rfl (by kernel_rfl) (by kernel_rfl) (by kernel_rfl) (by simp [Act.put]) HSh2.out ?_
            apply Exists.intro
            refine And.intro (fun w' hw' => ?_) ?_
            · clear hw'
              go_wp2
              first
                | exact ⟨trivial, rfl⟩
                | exact rfl
            refine pl_take (i := 15) 52 rfl rfl rfl (by kernel_rfl) (by kernel_rfl) (by kernel_rfl) (by simp [Act.put]) HSh2.out ?_
            apply Exists.intro
            refine And.intro (fun w' hw' => ?_) ?_
            · have fa := hS.out _ hw'
              clear hw'
              go_wp2
              first
                | exact ⟨trivial, rfl⟩
                | exact rfl
            refine pl_take (i := 16) 53 rfl rfl rfl (by kernel_rfl) (by kernel_rfl) (by kernel_rfl) (by simp [Act.put]) HSh2.out ?_
            apply Exists.intro
            refine And.intro (fun w' hw' => ?_) ?_
            · clear hw'
              go_wp2
              first
                | exact ⟨trivial, rfl⟩
                | exact rfl
            refine pl_heavy (i := 17) rfl (by kernel_rfl) ?_
            go_wp2_with fail
            refine (HSC.out _).mono ?_
            rintro e W3 ⟨rfl, hb⟩
            have HSh3 := Lib.hid (HSh2.out.fresh hb)
            have HB3' := Lib.hid (HB2'.out.trans (hb.mono HB2'.out.size))
            clear hb
            go_wp2
            refine And.intro HSh3.out ?_
            refine pl_heavy (i := 18) rfl (by kernel_rfl) ?_
            go_wp2_with fail
            refine (HSF.out _).mono ?_
            rintro e W4 ⟨rfl, hb⟩
            have HSh4 := Lib.hid (HSh3.out.fresh hb)
            have HB4' := Lib.hid (HB3'.out.trans (hb.mono HB3'.out.size))
            clear hb
            go_wp2
            refine And.intro HSh4.out ?_
            refine pl_take (i := 19) 56 rfl rfl rfl (by kernel_rfl) (by kernel_rfl) (by kernel_rfl) (by simp [Act.put]) HSh4.out ?_
            apply Exists.intro
            refine And.intro (fun w' hw' => ?_) ?_
            · clear hw'
              go_wp2
              first
                | exact ⟨trivial, rfl⟩
                | exact rfl
            refine pl_take (i := 20) 57 rfl rfl rfl (by kernel_rfl) (by kernel_rfl) (by kernel_rfl) (by simp [Act.put]) HSh4.out ?_
            apply Exists.intro
            refine And.intro (fun w' hw' => ?_) ?_
            · clear hw'
              go_wp2
              first
                | exact ⟨trivial, rfl⟩
                | exact rfl
            refine pl_take (i := 21) 58 rfl rfl rfl (by kernel_rfl) (by kernel_rfl) (by kernel_rfl) (by simp [Act.put]) HSh4.out ?_
            apply Exists.intro
            refine And.intro (fun w' hw' => ?_) ?_
            · clear hw'
              go_wp2
              first
                | exact ⟨trivial, rfl⟩
                | exact rfl
            refine pl_done (by kernel_rfl) ?_
            go_wp2
            go_roundw
            case rel => exact ⟨i + 1, HLT.out, by go_num, HB4'.out⟩
            case measure => have := HLT.out; simp only [intOf]; omega
          · have b8 : ¬ ((i : Int) < 8) := by omega
            clear h8
            go_wp2_with fail
            refine pl_start 22 rfl (fun w' => Rd w' 1 (.slice (some ad) 64 c1) 64 (ns primes64)) (by kernel_rfl) ?_
            refine pl_take (i := 0) 37 rfl rfl rfl (by kernel_rfl) (by kernel_rfl) (by kernel_rfl) (by simp [Act.put]) HSh.out ?_
            apply Exists.intro
            refine And.intro (fun w' hw' => ?_) ?_
            · clear hw'
              go_wp2
              first
                | exact ⟨trivial, rfl⟩
                | exact rfl
            refine pl_take (i := 1) 38 rfl rfl rfl (by kernel_rfl) (by kernel_rfl) (by kernel_rfl) (by simp [Act.put]) HSh.out ?_
            apply Exists.intro
            refine And.intro (fun w' hw' => ?_) ?_
            · clear hw'
              go_wp2
              first
                | exact ⟨trivial, rfl⟩
                | exact rfl
            refine pl_take (i := 2) 39 rfl rfl rfl (by kernel_rfl) (by kernel_rfl) (by kernel_rfl) (by simp [Act.put]) HSh.out ?_
            apply Exists.intro
            refine And.intro (fun w' hw' => ?_) ?_
            · clear hw'
              go_wp2
              first
                | exact ⟨trivial, rfl⟩
                | exact rfl
            refine pl_take (i := 3) 40 rfl rfl rfl (by kernel_rfl) (by kernel_rfl) (by kernel_rfl) (by simp [Act.put]) HSh.out ?_
            apply Exists.intro
            refine And.intro (fun w' hw' => ?_) ?_
            · have fa := hS.out _ hw'
              clear hw'
              go_wp2
              first
                | exact ⟨trivial, rfl⟩
                | exact rfl
            refine pl_take (i := 4) 41 rfl rfl rfl (by kernel_rfl) (by kernel_rfl) (by kernel_rfl) (by simp [Act.put]) HSh.out ?_
            apply Exists.intro
            refine And.intro (fun w' hw' => ?_) ?_
            · clear hw'
              go_wp2
              first
                | exact ⟨trivial, rfl⟩
                | exact rfl
            refine pl_heavy (i := 5) rfl (by kernel_rfl) ?_
            go_wp2_with fail
            refine (HCC.out _).mono ?_
            rintro e W1 ⟨rfl, hb⟩
            have HSh1 := Lib.hid (HSh.out.fresh hb)
            have HB1' := Lib.hid (HB0.out.trans (hb.mono HB0.out.size))
            clear hb
            go_wp2
            refine And.intro HSh1.out ?_
            refine pl_heavy (i := 6) rfl (by kernel_rfl) ?_
            go_wp2_with fail
            refine (HCF.out _).mono ?_
            rintro e W2 ⟨rfl, hb⟩
            have HSh2 := Lib.hid (HSh1.out.fresh hb)
            have HB2' := Lib.hid (HB1'.out.trans (hb.mono HB1'.out.size))
            clear hb
            go_wp2
            refine And.intro HSh2.out ?_
            refine pl_take (i := 7) 44 rfl rfl rfl (by kernel_rfl) (by kernel_rfl) (by kernel_rfl) (by simp [Act.put]) HSh2.out ?_
            apply Exists.intro
            refine And.intro (fun w' hw' => ?_) ?_
            · clear hw'
              go_wp2
              first
                | exact ⟨trivial, rfl⟩
                | exact rfl
            refine pl_take (i := 8) 45 rfl rfl rfl (by kernel_rfl) (by kernel_rfl) (by kernel_rfl) (by simp [Act.put]) HSh2.out ?_
            apply Exists.intro
            refine And.intro (fun w' hw' => ?_) ?_
            · clear hw'
              go_wp2
              first
                | exact ⟨trivial, rfl⟩
                | exact rfl
            refine pl_take (i := 9) 46 rfl rfl rfl (by kernel_rfl) (by kernel_rfl) (by kernel_rfl) (by simp [Act.put]) HSh2.out ?_
            apply Exists.intro
            refine And.intro (fun w' hw' => ?_) ?_
            · clear hw'
              go_wp2
              first
                | exact ⟨trivial, rfl⟩
                | exact rfl
            refine pl_take (i := 10) 47 rfl rfl rfl (by kernel_rfl) (by kernel_rfl) (by kernel_rfl) (by simp [Act.put]) HSh2.out ?_
            apply Exists.intro
            refine And.intro (fun w' hw' => ?_) ?_
            · clear hw'
              go_wp2
              first
                | exact ⟨trivial, rfl⟩
                | exact rfl
            refine pl_take (i := 11) 48 rfl rfl rfl (by kernel_rfl) (by kernel_rfl) (by kernel_rfl) (by simp [Act.put]) HSh2.out ?_
            apply Exists.intro
            refine And.intro (fun w' hw' => ?_) ?_
            · clear hw'
              go_wp2
              first
                | exact ⟨trivial, rfl⟩
                | exact rfl
            refine pl_take (i := 12) 49 rfl rfl rfl (by kernel_rfl) (by kernel_rfl) (by kernel_rfl) (by simp [Act.put]) HSh2.out ?_
            apply Exists.intro
            refine And.intro (fun w' hw' => ?_) ?_
            · clear hw'
              go_wp2
              first
                | exact ⟨trivial, rfl⟩
                | exact rfl
            refine pl_take (i := 13) 50 rfl rfl rfl (by kernel_rfl) (by kernel_rfl) (by kernel_rfl) (by simp [Act.put]) HSh2.out ?_
            apply Exists.intro
            refine And.intro (fun w' hw' => ?_) ?_
            · clear hw'
              go_wp2
              first
                | exact ⟨trivial, rfl⟩
                | exact rfl
            refine pl_take (i := 14) 51 rfl rfl rfl (by kernel_rfl) (by kernel_rfl) (by kernel_rfl) (by simp [Act.put]) HSh2.out ?_
            apply Exists.intro
            refine And.intro (fun w' hw' => ?_) ?_
            · clear hw'
              go_wp2
              first
                | exact ⟨trivial, rfl⟩
                | exact rfl
            refine pl_take (i := 15) 52 rfl rfl rfl (by kernel_rfl) (by kernel_rfl) (by kernel_rfl) (by simp [Act.put]) HSh2.out ?_
            apply Exists.intro
            refine And.intro (fun w' hw' => ?_) ?_
            · clear hw'
              go_wp2
              first
                | exact ⟨trivial, rfl⟩
                | exact rfl
            refine pl_take (i := 16) 53 rfl rfl rfl (by kernel_rfl) (by kernel_rfl) (by kernel_rfl) (by simp [Act.put]) HSh2.out ?_
            apply Exists.intro
            refine And.intro (fun w' hw' => ?_) ?_
            · clear hw'
              go_wp2
              first
                | exact ⟨trivial, rfl⟩
                | exact rfl
            refine pl_heavy (i := 17) rfl (by kernel_rfl) ?_
            go_wp2
            refine And.intro HSh2.out ?_
            refine pl_heavy (i := 18) rfl (by kernel_rfl) ?_
            go_wp2
            refine And.intro HSh2.out ?_
            refine pl_take (i := 19) 56 rfl rfl rfl (by kernel_rfl) (by kernel_rfl) (by kernel_rfl) (by simp [Act.put]) HSh2.out ?_
            apply Exists.intro
            refine And.intro (fun w' hw' => ?_) ?_
            · clear hw'
              go_wp2
              first
                | exact ⟨trivial, rfl⟩
                | exact rfl
            refine pl_take (i := 20) 57 rfl rfl rfl (by kernel_rfl) (by kernel_rfl) (by kernel_rfl) (by simp [Act.put]) HSh2.out ?_
            apply Exists.intro
            refine And.intro (fun w' hw' => ?_) ?_
            · clear hw'
              go_wp2
              first
                | exact ⟨trivial, rfl⟩
                | exact rfl
            refine pl_take (i := 21) 58 rfl rfl rfl (by kernel_rfl) (by kernel_rfl) (by kernel_rfl) (by simp [Act.put]) HSh2.out ?_
            apply Exists.intro
            refine And.intro (fun w' hw' => ?_) ?_
            · clear hw'
              go_wp2
              first
                | exact ⟨trivial, rfl⟩
                | exact rfl
            refine pl_done (by kernel_rfl) ?_
            go_wp2
            go_roundw
            case rel => exact ⟨i + 1, HLT.out, by go_num, HB2'.out⟩
            case measure => have := HLT.out; simp only [intOf]; omega
        · obtain rfl : i = 64 := by omega
          have HBF := Lib.hid (show Below H w wr from Hb.out.trans (hb.mono (by have := Hb.out.size; have := HH.out; omega)))
          clear hb hlt Hb hca
          go_wp2_with fail
          refine (start8 wr).mono ?_
          rintro e w2 ⟨rfl, hb2⟩
          have HB2 := Lib.hid (HBF.out.trans (hb2.mono (by have := HBF.out.size; have := HH.out; omega)))
          clear hb2 HBF
          go_wp2_with fail
          refine (const64 w2).mono ?_
          rintro e w3 ⟨rfl, hb3⟩
          have HB3 := Lib.hid (HB2.out.trans (hb3.mono (by have := HB2.out.size; have := HH.out; omega)))
          clear hb3 HB2
          go_wp2_with fail
          refine (startM w3).mono ?_
          rintro e w4 ⟨rfl, hb4⟩
          have HB4 := Lib.hid (HB3.out.trans (hb4.mono (by have := HB3.out.size; have := HH.out; omega)))
          clear hb4 HB3
          go_wp2_with fail
          refine (sknown_any w4).mono ?_
          rintro e w5 ⟨rfl, hb5⟩
          have HB5 := Lib.hid (HB4.out.trans (hb5.mono (by have := HB4.out.size; have := HH.out; omega)))
          clear hb5 HB4
          go_wp2
          go_ret
          exact ⟨rfl, HB5.out⟩
end Go.Proofs.Ytdljpgihfjpnjaa
