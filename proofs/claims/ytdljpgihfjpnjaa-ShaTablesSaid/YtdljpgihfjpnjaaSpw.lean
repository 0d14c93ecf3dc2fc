/- ShaTables: a power held against a number: the walk. -/
import Derived.Test.YtdljpgihfjpnjaaSti
import Derived.Test.YtdljpgihfjpnjaaPlan
import Derived.Lib.MinMax
namespace Go.Proofs.Ytdljpgihfjpnjaa
set_option linter.unusedVariables false
set_option linter.unusedSimpArgs false
open Go.RowKit Go.Lib

section
variable {P : Program} {ops : Array Oper} {S : World → Prop} {K : Act → World → Prop}

theorem pl_opn {i : Nat} {o : Oper} {a : Act} {w : World} {X : Act → World → Prop} (hi : ops[i]? = some o)
    (h : wpList P ops (Exit.then X noExit) [o] a w) : wpOp P ops (PQ K) i X a w := by
  unfold wpOp
  rw [hi]
  simp only
  unfold wpList at h
  split
  · rename_i hw
    rw [if_pos hw] at h
    rcases h with h | ⟨hk, a0, w0, hf⟩
    · left
      unfold Oper.wp at h ⊢
      generalize (execOp a.eval o).run P w = r at h ⊢
      cases r with
      | ok n w1 =>
        cases n <;> simp only [Oper.upon] at h ⊢ <;> first
          | exact h
          | exact Calls.mono h (fun e w2 he => by
              cases e with
              | returned v => exact he
              | panicked c => exact (he : False).elim
              | outgrown => obtain ⟨_, _, hf⟩ := he; exact (hf : False).elim)
          | exact Rows.mono h (fun _ _ he => he)
      | halt x w1 =>
        cases x <;> simp only [Oper.upon] at h ⊢ <;> exact h
    · exact (hf : False).elim
  · rename_i hw
    rw [if_neg hw] at h
    exact h

/-- Number i or number j may come up. -/
theorem pl_both {i j fuel : Nat} {oi oj : Oper} {listed : Array Bool} {a : Act} {w : World} (hi : ops[i]? = some oi) (hj : ops[j]? = some oj) (hr : Region.ready .any ops listed = [i, j])
    (h1 : wpList P ops (Exit.then (fun a' w' => S w' ∧ wpAnyH P .any ops (PQ K) S fuel (listed.setIfInBounds i true) a' w') noExit) [oi] a w)
    (h2 : wpList P ops (Exit.then (fun a' w' => S w' ∧ wpAnyH P .any ops (PQ K) S fuel (listed.setIfInBounds j true) a' w') noExit) [oj] a w) : wpAnyH P .any ops (PQ K) S (fuel + 1) listed a w := by
  refine wpAnyH_all hr (by simp) ?_
  intro k hk
  simp only [List.mem_cons, List.not_mem_nil, or_false] at hk
  rcases hk with rfl | rfl
  · exact pl_opn hi h1
  · exact pl_opn hj h2
end

theorem own_weaken {w : World} {base base' : Nat} {e : TypeId} {size : Nat} {v : Value} {n : Nat} {xs : List Value} (h : w.ownsRow base e size v n xs) (hb : base' ≤ base) : w.ownsRow base' e size v n xs := by
  refine ⟨h.1, ?_⟩
  rcases h.2 with h2 | ⟨g, cap, cur, h3, h4, h5⟩
  · exact .inl h2
  · exact .inr ⟨g, cap, cur, h3, by omega, h5⟩

theorem powL_length (d : List Nat) (k : Nat) : (powL d k).length = (k + 1) * d.length + k := by
  induction k with
  | zero => simp [powL]
  | succ k ih =>
    show (timesB (powL d k) d).length = _
    rw [timesB_length, ih, Nat.add_mul (k + 1) 1]
    omega

set_option maxRecDepth 100000 in
set_option maxHeartbeats 8000000 in
theorem pow_any (w : World) (vd : Value) (d : List Nat) (pw sh p : Nat) (hd : Rd w 1 vd d.length (ns d)) (ld : d.length ≤ 10) (hp1 : 1 ≤ pw) (hp3 : pw ≤ 3) (hsh : sh ≤ 96) (hp : p < 18446744073709551616) :
    Calls Try.prog 65 #[vd, .int .i64 (pw : Int), .int .i64 (sh : Int), .int .u64 (p : Int)] w fun e w' => e = .returned (.bool (powB d pw sh p)) ∧ Below w.heap.size w w' := by
  obtain ⟨i0, hi, hz0, hz1, hz2⟩ := info_parts infoU64
  obtain ⟨da, dc, rfl⟩ := hd.slice
  obtain ⟨dl, hdl⟩ : ∃ n, n = d.length := ⟨_, rfl⟩
  rw [← hdl] at hd ld ⊢
  obtain ⟨X, hX⟩ : ∃ X, X = powL d (pw - 1) := ⟨_, rfl⟩
  obtain ⟨q, hq⟩ : ∃ q, q = sh / 16 := ⟨_, rfl⟩
  obtain ⟨Y, hY⟩ : ∃ Y, Y = List.replicate q 0 ++ dgF 4 p := ⟨_, rfl⟩
  obtain ⟨R, hR⟩ : ∃ R, R = powB d pw sh p := ⟨_, rfl⟩
  have hRc : R = cmpF X Y (max X.length Y.length) := by rw [hR, hX, hY, hq]; rfl
  rw [← hR]
  have hXl : X.length ≤ 40 := by
    have := powL_length d (pw - 1)
    rw [← hX, ← hdl] at this
    have h1 : pw - 1 + 1 ≤ 3 := by omega
    have h2 : (pw - 1 + 1) * dl ≤ 3 * 10 := Nat.mul_le_mul h1 ld
    omega
  have hYl : Y.length ≤ 10 := by rw [hY]; have := dgF_length 4 p; simp; omega
  have eq1 : (sh : Int) / 16 = (q : Int) := by omega
  have eq2 : (sh : Int).tdiv 16 = (q : Int) := by rw [hq]; exact (Int.ofNat_tdiv sh 16).symm
  have hq6 : q ≤ 6 := by omega
  have HD := Lib.hid hd
  have HX := Lib.hid (And.intro hX (And.intro hY (And.intro hRc hdl)))
  have HC : Hid (∀ w0, Calls Try.prog 66 #[.int .u64 (p : Int)] w0 fun e w' => ∃ v, e = .returned v ∧ Rd w' 1 v (dgF 4 p).length (ns (dgF 4 p)) ∧ Below w0.heap.size w0 w') := Lib.hid (fun w0 => digits_any w0 p hp)
  obtain ⟨D, hD⟩ : ∃ D, D = dgF 4 p := ⟨_, rfl⟩
  rw [← hD] at HC
  have hDl : D.length ≤ 4 := by rw [hD]; exact dgF_length 4 p
  have HDD := Lib.hid (And.intro hD hDl)
  clear hd hX hY hRc hR hdl hD hDl hq hp
  go_enter Try.func65, Try.ntmps65
  go_wp2
  go_loopw [9, 10] (fun v9 v10 wr => ∃ i : Nat, 1 ≤ i ∧ i ≤ pw ∧ v10 = .int .i64 (i : Int) ∧ Rd wr 1 v9 (powL d (i - 1)).length (ns (powL d (i - 1))) ∧ Below w.heap.size w wr)
    (fun _ v _ => pw - (intOf v).toNat)
  case atStart => exact ⟨1, by omega, hp1, rfl, by have := HD.out; rw [HX.out.2.2.2] at this; simpa [powL, HX.out.2.2.2] using this, Below.refl _ _⟩
  case round =>
    obtain ⟨i, hi1, hip, rfl, hr, hb⟩ := hrel
    obtain ⟨a9, c9, rfl⟩ := hr.slice
    obtain ⟨E, hE⟩ : ∃ E, E = powL d (i - 1) := ⟨_, rfl⟩
    have hEl : E.length ≤ 40 := by
      have := powL_length d (i - 1)
      rw [← hE, ← HX.out.2.2.2] at this
      have h2 : (i - 1 + 1) * dl ≤ 3 * 10 := Nat.mul_le_mul (by omega) ld
      omega
    rw [← hE] at hr ⊢
    obtain ⟨el, hel⟩ : ∃ n, n = E.length := ⟨_, rfl⟩
    rw [← hel] at hr hEl ⊢
    have HR := Lib.hid hr
    have HB := Lib.hid hb
    have HE := Lib.hid (And.intro hE hel)
    clear hr hb hE hel
    by_cases hlt : i < pw
    · have bi : (i : Int) < (pw : Int) := by omega
      have hdr : Rd wr 1 (.slice da dl dc) dl (ns d) := HD.out.fresh HB.out
      have CT := times_any wr (.slice a9 el c9) (.slice da dl dc) E d (by rw [← HE.out.2]; exact HR.out) (by rw [← HX.out.2.2.2]; exact hdr) (by have := HE.out.2; omega) (by have := HX.out.2.2.2; omega)
      have HCT := Lib.hid CT
      have HLT := Lib.hid hlt
      clear hdr CT hlt
      go_wp2_with fail
      refine HCT.out.mono ?_
      rintro e w2 ⟨v2, rfl, hr2, hb2⟩
      obtain ⟨a2, c2, rfl⟩ := hr2.slice
      have HR2 := Lib.hid hr2
      have HB2 := Lib.hid (HB.out.trans (hb2.mono HB.out.size))
      clear hr2 hb2
      obtain ⟨tl, htl⟩ : ∃ n, n = (timesB E d).length := ⟨_, rfl⟩
      rw [← htl] at HR2 ⊢
      have HTL := Lib.hid htl
      clear htl
      go_wp2
      go_roundw
      case rel =>
        have hpe : powL d (i + 1 - 1) = timesB E d := by
          rw [HE.out.1]
          obtain ⟨i', rfl⟩ : ∃ i', i = i' + 1 := ⟨i - 1, by omega⟩
          rfl
        refine ⟨i + 1, by omega, by have := HLT.out; omega, by go_num, ?_, HB2.out⟩
        rw [hpe, ← HTL.out]
        exact HR2.out
      case measure =>
        have := HLT.out
        simp only [intOf]
        omega
    · have hip' : i = pw := by omega
      have bi : ¬ ((i : Int) < (pw : Int)) := by omega
      have hEX : E = X := by rw [HE.out.1, hip', HX.out.1]
      have HEX := Lib.hid hEX
      rename World => wx
      clear hip' hEX hlt
      go_wp2_with fail
      have hrX : Rd wx 1 (.slice a9 el c9) el (ns X) := by rw [← HEX.out]; exact HR.out
      have HRX := Lib.hid hrX
      clear hrX
      refine pl_start 7 rfl (fun _ => True) (by kernel_rfl) ?_
      refine pl_take (i := 0) 24 rfl rfl rfl (by kernel_rfl) (by kernel_rfl) (by kernel_rfl) (by simp [Act.put]) trivial ?_
      apply Exists.intro
      refine And.intro (fun w' _ => ?_) ?_
      · go_wp2
        exact ⟨trivial, rfl⟩
      refine pl_take (i := 1) 25 rfl rfl rfl (by kernel_rfl) (by kernel_rfl) (by kernel_rfl) (by simp [Act.put]) trivial ?_
      apply Exists.intro
      refine And.intro (fun w' _ => ?_) ?_
      · go_wp2
        exact ⟨trivial, rfl⟩
      refine pl_take (i := 3) 27 rfl rfl rfl (by kernel_rfl) (by kernel_rfl) (by kernel_rfl) (by simp [Act.put]) trivial ?_
      apply Exists.intro
      refine And.intro (fun w' _ => ?_) ?_
      · go_wp2
        exact ⟨trivial, rfl⟩
      refine pl_both (i := 2) (j := 4) rfl rfl (by kernel_rfl) ?_ ?_
      · skip
        refine wpList_make_full _ rfl _ _ 74 rfl wx.drew.heap.size 28 i0 (.int .u64 0) 1 Try.underlying74 hi hz0 hz1 _ _ _ _ q rfl rfl rfl rfl (by rw [hz2]; omega) (by unfold maxLen; omega) (Nat.le_refl _) ?_
        intro wA hown hgr
        have bwA : Below wx.heap.size wx wA := (((Below.refl wx.heap.size wx).drew)).trans ((Below.grown (Below.refl _ wx.drew) hgr (Nat.le_refl _) (by simp)).mono (((Below.refl wx.heap.size wx).drew)).size)
        have owA : wA.ownsRow wx.heap.size 28 1 (.slice (some ⟨wx.drew.heap.size, 0, none⟩) q q) q (ns (List.replicate q 0)) := by
          refine own_weaken ?_ (((Below.refl wx.heap.size wx).drew)).size
          simpa [ns, nv, Value.cells, toList_madeCells_one] using hown
        have OwA := Lib.hid owA
        have BwA := Lib.hid bwA
        clear hown hgr owA bwA
        go_wp2
        refine And.intro trivial ?_
        refine pl_heavy (i := 4) rfl (by kernel_rfl) ?_
        go_wp2_with fail
        refine (HC.out _).mono ?_
        rintro e wB ⟨v6, rfl, hr6, hb6⟩
        obtain ⟨a6, c6, rfl⟩ := hr6.slice
        have BwB : Hid (Below wx.heap.size wx wB) := Lib.hid ((BwA.out).trans (hb6.mono (BwA.out).size))
        have RwB := Lib.hid hr6
        have HB6 := Lib.hid hb6
        clear hr6 hb6
        go_wp2
        refine And.intro trivial ?_
        refine pl_heavy (i := 5) rfl (by kernel_rfl) ?_
        refine wpList_append_rd _ rfl (.tmp 26) (.tmp 28) 74 rfl wx.heap.size 28 i0 (.int .u64 0) 1 8 Try.underlying74 hi hz0 hz1 hz2 rfl (by decide) (.slice (some ⟨wx.drew.heap.size, 0, none⟩) q q) q _ rfl (own_fresh OwA.out HB6.out) (.slice a6 D.length c6) D.length (ns D) rfl (RwB.out) (ns_one D) (by unfold maxLen; have := HDD.out.2; omega) (by have := HDD.out.2; omega) BwB.out.size ?_
        intro v8 w8 hown hgr _ _
        have hb8 : Below wx.heap.size wx w8 := BwB.out.grown hgr BwB.out.size (own_base (own_fresh OwA.out HB6.out))
        have hy8 : Rd w8 1 v8 Y.length (ns Y) := by
          have h1 := Rd.of_own hown
          have h2 : Y = List.replicate q 0 ++ D := by rw [HX.out.2.1, HDD.out.1]
          have h3 : Y.length = q + D.length := by rw [h2]; simp
          rw [h3, h2]
          simpa [ns] using h1
        obtain ⟨a8, c8, rfl⟩ := hy8.slice
        have HY8 := Lib.hid hy8
        have HB8 := Lib.hid hb8
        clear hown hgr hb8 hy8
        go_wp2
        refine And.intro trivial ?_
        refine pl_take (i := 6) 11 rfl rfl rfl (by kernel_rfl) (by kernel_rfl) (by kernel_rfl) (by simp [Act.put]) trivial ?_
        apply Exists.intro
        refine And.intro (fun w' _ => ?_) ?_
        · go_wp2
          exact ⟨trivial, rfl⟩
        refine pl_done (by kernel_rfl) ?_
        have hXr := Lib.hid (HRX.out.fresh (show Below wx.heap.size wx w8 from HB8.out))
        obtain ⟨yl, hyl⟩ : ∃ n, n = Y.length := ⟨_, rfl⟩
        rw [← hyl] at HY8 hYl ⊢
        obtain ⟨m, hm⟩ : ∃ m, m = max el yl := ⟨_, rfl⟩
        have em : max (el : Int) (yl : Int) = (m : Int) := by omega
        have gm : IntKind.i64.wrap ((m : Int) - 1) = (m : Int) - 1 := by rw [IntKind.wrap_i64]; omega
        have hRm : cmpF X Y m = R := by
          have h1 := HX.out.2.2.1
          rw [h1, ← HEX.out, ← HE.out.2, ← hyl, ← hm]
        have helX : el = X.length := by rw [HE.out.2, HEX.out]
        have HYL := Lib.hid (And.intro helX (And.intro hyl (And.intro hm hRm)))
        have BW := Lib.hid (HB.out.trans (HB8.out.mono HB.out.size))
        have hm2 : m ≤ 100 := by omega
        clear hyl hm hRm helX HRX HB8
        go_wp2
        go_loopw [12] (fun v12 wr => ∃ k : Nat, ∃ z : Int, z = (k : Int) - 1 ∧ k ≤ m ∧ v12 = .int .i64 z ∧ cmpF X Y k = R ∧ wr = w8)
          (fun v _ => (intOf v + 1).toNat)
        case atStart => exact ⟨m, _, rfl, Nat.le_refl _, rfl, HYL.out.2.2.2, rfl⟩
        case round =>
          obtain ⟨k, z, hz, hkm, rfl, hcmp, rfl⟩ := hrel
          have HCMP := Lib.hid hcmp
          clear hcmp
          rcases k with _ | j
          · have bz : ¬ ((0 : Int) ≤ z) := by omega
            have HZ := Lib.hid hz
            clear hz
            go_wp2
            go_ret
            have := HCMP.out
            simp only [cmpF] at this
            exact ⟨by rw [← this]; rfl, BW.out⟩
          · obtain rfl : z = (j : Int) := by omega
            clear hz
            have bz : (0 : Int) ≤ (j : Int) := by omega
            obtain ⟨x, hx⟩ : ∃ x, x = X.getD j 0 := ⟨_, rfl⟩
            obtain ⟨y, hy⟩ : ∃ y, y = Y.getD j 0 := ⟨_, rfl⟩
            have HV := Lib.hid (And.intro hx hy)
            have HCM := HCMP.out
            rw [show cmpF X Y (j + 1) = if X.getD j 0 = Y.getD j 0 then cmpF X Y j else decide (X.getD j 0 < Y.getD j 0) from rfl, ← hx, ← hy] at HCM
            have HCH := Lib.hid HCM
            clear hx hy HCM HCMP
            by_cases hja : j < el
            · have ba : (j : Int) < (el : Int) := by omega
              rcases hXr.out.2 with ⟨_, h0⟩ | ⟨ada, ca, hea, _, _, hca⟩
              · omega
              simp only [Value.slice.injEq, true_and] at hea
              obtain ⟨rfl, rfl⟩ := hea
              have fa : wr.cell? (ada.add j) = some (.int .u64 (x : Int)) := by rw [HV.out.1]; exact hca j _ (ns_get _ _ (by have := HYL.out.1; omega))
              clear hca
              by_cases hjb : j < yl
              · have bb : (j : Int) < (yl : Int) := by omega
                rcases HY8.out.2 with ⟨_, h0⟩ | ⟨adb, cb, heb, _, _, hcb⟩
                · omega
                simp only [Value.slice.injEq, true_and] at heb
                obtain ⟨rfl, rfl⟩ := heb
                have fb : wr.cell? (adb.add j) = some (.int .u64 (y : Int)) := by rw [HV.out.2]; exact hcb j _ (ns_get _ _ (by have := HYL.out.2.1; omega))
                clear hcb
                have HJ := Lib.hid (And.intro hja hjb)
                clear hja hjb
                by_cases hxy : x = y
                · subst hxy
                  go_wp2
                  go_roundw
                  case rel => exact ⟨j, _, by go_num, by omega, rfl, by have := HCH.out; simpa using this, by first | rfl | trivial⟩
                  case measure => simp only [intOf]; go_num
                · have bn : ¬ ((x : Int) = (y : Int)) := by omega
                  have HN := Lib.hid hxy
                  clear hxy
                  by_cases hl : x < y
                  · have bl : (x : Int) < (y : Int) := by omega
                    have HL := Lib.hid hl
                    clear hl
                    go_wp2
                    go_ret
                    have h1 := HCH.out
                    rw [if_neg HN.out, decide_eq_true HL.out] at h1
                    exact ⟨by rw [← h1]; rfl, BW.out⟩
                  · have bl : ¬ ((x : Int) < (y : Int)) := by omega
                    have HL := Lib.hid hl
                    clear hl
                    go_wp2
                    go_ret
                    have h1 := HCH.out
                    rw [if_neg HN.out, decide_eq_false HL.out] at h1
                    exact ⟨by rw [← h1]; rfl, BW.out⟩
              · have bb : ¬ ((j : Int) < (yl : Int)) := by omega
                have y0 : y = 0 := by rw [HV.out.2, List.getD_eq_getElem?_getD, List.getElem?_eq_none (by have := HYL.out.2.1; omega)]; rfl
                subst y0
                have HJ := Lib.hid (And.intro hja hjb)
                clear hja hjb
                by_cases hxy : x = 0
                · subst hxy
                  go_wp2
                  go_roundw
                  case rel => exact ⟨j, _, by go_num, by omega, rfl, by have := HCH.out; simpa using this, by first | rfl | trivial⟩
                  case measure => simp only [intOf]; go_num
                · have bn : ¬ ((x : Int) = (0 : Int)) := by omega
                  have HN := Lib.hid hxy
                  clear hxy
                  by_cases hl : x < 0
                  · omega
                  · have bl : ¬ ((x : Int) < (0 : Int)) := by omega
                    have HL := Lib.hid hl
                    clear hl
                    go_wp2
                    go_ret
                    have h1 := HCH.out
                    rw [if_neg HN.out, decide_eq_false HL.out] at h1
                    exact ⟨by rw [← h1]; rfl, BW.out⟩
            · have ba : ¬ ((j : Int) < (el : Int)) := by omega
              have hjb : j < yl := by have := HYL.out.2.2.1; omega
              have bb : (j : Int) < (yl : Int) := by omega
              rcases HY8.out.2 with ⟨_, h0⟩ | ⟨adb, cb, heb, _, _, hcb⟩
              · omega
              simp only [Value.slice.injEq, true_and] at heb
              obtain ⟨rfl, rfl⟩ := heb
              have fb : wr.cell? (adb.add j) = some (.int .u64 (y : Int)) := by rw [HV.out.2]; exact hcb j _ (ns_get _ _ (by have := HYL.out.2.1; omega))
              clear hcb
              have x0 : x = 0 := by rw [HV.out.1, List.getD_eq_getElem?_getD, List.getElem?_eq_none (by have := HYL.out.1; omega)]; rfl
              subst x0
              have HJ := Lib.hid (And.intro hja hjb)
              clear hja hjb
              by_cases hxy : 0 = y
              · subst hxy
                go_wp2
                go_roundw
                case rel => exact ⟨j, _, by go_num, by omega, rfl, by have := HCH.out; simpa using this, by first | rfl | trivial⟩
                case measure => simp only [intOf]; go_num
              · have bn : ¬ ((0 : Int) = (y : Int)) := by omega
                have HN := Lib.hid hxy
                clear hxy
                by_cases hl : 0 < y
                · have bl2 : 0 < y := hl
                  have bl : (0 : Int) < (y : Int) := by omega
                  have HL := Lib.hid hl
                  clear hl
                  go_wp2
                  go_ret
                  have h1 := HCH.out
                  rw [if_neg HN.out, decide_eq_true HL.out] at h1
                  exact ⟨by rw [← h1]; rfl, BW.out⟩
                · omega
      · skip
        go_wp2_with fail
        refine (HC.out _).mono ?_
        rintro e wA ⟨v6, rfl, hr6, hb6⟩
        obtain ⟨a6, c6, rfl⟩ := hr6.slice
        have BwA : Hid (Below wx.heap.size wx wA) := Lib.hid ((((Below.refl wx.heap.size wx).drew)).trans (hb6.mono (((Below.refl wx.heap.size wx).drew)).size))
        have RwA := Lib.hid hr6
        have HB6 := Lib.hid hb6
        clear hr6 hb6
        go_wp2
        refine And.intro trivial ?_
        refine pl_heavy (i := 2) rfl (by kernel_rfl) ?_
        refine wpList_make_full _ rfl _ _ 74 rfl wA.heap.size 28 i0 (.int .u64 0) 1 Try.underlying74 hi hz0 hz1 _ _ _ _ q rfl rfl rfl rfl (by rw [hz2]; omega) (by unfold maxLen; omega) (Nat.le_refl _) ?_
        intro wB hown hgr
        have bwB : Below wx.heap.size wx wB := (BwA.out).trans ((Below.grown (Below.refl _ wA) hgr (Nat.le_refl _) (by simp)).mono (BwA.out).size)
        have owB : wB.ownsRow wx.heap.size 28 1 (.slice (some ⟨wA.heap.size, 0, none⟩) q q) q (ns (List.replicate q 0)) := by
          refine own_weaken ?_ (BwA.out).size
          simpa [ns, nv, Value.cells, toList_madeCells_one] using hown
        have OwB := Lib.hid owB
        have BwB := Lib.hid bwB
        have RwB := Lib.hid (RwA.out.fresh (Below.grown (Below.refl _ wA) hgr (Nat.le_refl _) (by simp)))
        clear hown hgr owB bwB
        go_wp2
        refine And.intro trivial ?_
        refine pl_heavy (i := 5) rfl (by kernel_rfl) ?_
        refine wpList_append_rd _ rfl (.tmp 26) (.tmp 28) 74 rfl wx.heap.size 28 i0 (.int .u64 0) 1 8 Try.underlying74 hi hz0 hz1 hz2 rfl (by decide) (.slice (some ⟨wA.heap.size, 0, none⟩) q q) q _ rfl (OwB.out) (.slice a6 D.length c6) D.length (ns D) rfl (RwB.out) (ns_one D) (by unfold maxLen; have := HDD.out.2; omega) (by have := HDD.out.2; omega) BwB.out.size ?_
        intro v8 w8 hown hgr _ _
        have hb8 : Below wx.heap.size wx w8 := BwB.out.grown hgr BwB.out.size (own_base (OwB.out))
        have hy8 : Rd w8 1 v8 Y.length (ns Y) := by
          have h1 := Rd.of_own hown
          have h2 : Y = List.replicate q 0 ++ D := by rw [HX.out.2.1, HDD.out.1]
          have h3 : Y.length = q + D.length := by rw [h2]; simp
          rw [h3, h2]
          simpa [ns] using h1
        obtain ⟨a8, c8, rfl⟩ := hy8.slice
        have HY8 := Lib.hid hy8
        have HB8 := Lib.hid hb8
        clear hown hgr hb8 hy8
        go_wp2
        refine And.intro trivial ?_
        refine pl_take (i := 6) 11 rfl rfl rfl (by kernel_rfl) (by kernel_rfl) (by kernel_rfl) (by simp [Act.put]) trivial ?_
        apply Exists.intro
        refine And.intro (fun w' _ => ?_) ?_
        · go_wp2
          exact ⟨trivial, rfl⟩
        refine pl_done (by kernel_rfl) ?_
        have hXr := Lib.hid (HRX.out.fresh (show Below wx.heap.size wx w8 from HB8.out))
        obtain ⟨yl, hyl⟩ : ∃ n, n = Y.length := ⟨_, rfl⟩
        rw [← hyl] at HY8 hYl ⊢
        obtain ⟨m, hm⟩ : ∃ m, m = max el yl := ⟨_, rfl⟩
        have em : max (el : Int) (yl : Int) = (m : Int) := by omega
        have gm : IntKind.i64.wrap ((m : Int) - 1) = (m : Int) - 1 := by rw [IntKind.wrap_i64]; omega
        have hRm : cmpF X Y m = R := by
          have h1 := HX.out.2.2.1
          rw [h1, ← HEX.out, ← HE.out.2, ← hyl, ← hm]
        have helX : el = X.length := by rw [HE.out.2, HEX.out]
        have HYL := Lib.hid (And.intro helX (And.intro hyl (And.intro hm hRm)))
        have BW := Lib.hid (HB.out.trans (HB8.out.mono HB.out.size))
        have hm2 : m ≤ 100 := by omega
        clear hyl hm hRm helX HRX HB8
        go_wp2
        go_loopw [12] (fun v12 wr => ∃ k : Nat, ∃ z : Int, z = (k : Int) - 1 ∧ k ≤ m ∧ v12 = .int .i64 z ∧ cmpF X Y k = R ∧ wr = w8)
          (fun v _ => (intOf v + 1).toNat)
        case atStart => exact ⟨m, _, rfl, Nat.le_refl _, rfl, HYL.out.2.2.2, rfl⟩
        case round =>
          obtain ⟨k, z, hz, hkm, rfl, hcmp, rfl⟩ := hrel
          have HCMP := Lib.hid hcmp
          clear hcmp
          rcases k with _ | j
          · have bz : ¬ ((0 : Int) ≤ z) := by omega
            have HZ := Lib.hid hz
            clear hz
            go_wp2
            go_ret
            have := HCMP.out
            simp only [cmpF] at this
            exact ⟨by rw [← this]; rfl, BW.out⟩
          · obtain rfl : z = (j : Int) := by omega
            clear hz
            have bz : (0 : Int) ≤ (j : Int) := by omega
            obtain ⟨x, hx⟩ : ∃ x, x = X.getD j 0 := ⟨_, rfl⟩
            obtain ⟨y, hy⟩ : ∃ y, y = Y.getD j 0 := ⟨_, rfl⟩
            have HV := Lib.hid (And.intro hx hy)
            have HCM := HCMP.out
            rw [show cmpF X Y (j + 1) = if X.getD j 0 = Y.getD j 0 then cmpF X Y j else decide (X.getD j 0 < Y.getD j 0) from rfl, ← hx, ← hy] at HCM
            have HCH := Lib.hid HCM
            clear hx hy HCM HCMP
            by_cases hja : j < el
            · have ba : (j : Int) < (el : Int) := by omega
              rcases hXr.out.2 with ⟨_, h0⟩ | ⟨ada, ca, hea, _, _, hca⟩
              · omega
              simp only [Value.slice.injEq, true_and] at hea
              obtain ⟨rfl, rfl⟩ := hea
              have fa : wr.cell? (ada.add j) = some (.int .u64 (x : Int)) := by rw [HV.out.1]; exact hca j _ (ns_get _ _ (by have := HYL.out.1; omega))
              clear hca
              by_cases hjb : j < yl
              · have bb : (j : Int) < (yl : Int) := by omega
                rcases HY8.out.2 with ⟨_, h0⟩ | ⟨adb, cb, heb, _, _, hcb⟩
                · omega
                simp only [Value.slice.injEq, true_and] at heb
                obtain ⟨rfl, rfl⟩ := heb
                have fb : wr.cell? (adb.add j) = some (.int .u64 (y : Int)) := by rw [HV.out.2]; exact hcb j _ (ns_get _ _ (by have := HYL.out.2.1; omega))
                clear hcb
                have HJ := Lib.hid (And.intro hja hjb)
                clear hja hjb
                by_cases hxy : x = y
                · subst hxy
                  go_wp2
                  go_roundw
                  case rel => exact ⟨j, _, by go_num, by omega, rfl, by have := HCH.out; simpa using this, by first | rfl | trivial⟩
                  case measure => simp only [intOf]; go_num
                · have bn : ¬ ((x : Int) = (y : Int)) := by omega
                  have HN := Lib.hid hxy
                  clear hxy
                  by_cases hl : x < y
                  · have bl : (x : Int) < (y : Int) := by omega
                    have HL := Lib.hid hl
                    clear hl
                    go_wp2
                    go_ret
                    have h1 := HCH.out
                    rw [if_neg HN.out, decide_eq_true HL.out] at h1
                    exact ⟨by rw [← h1]; rfl, BW.out⟩
                  · have bl : ¬ ((x : Int) < (y : Int)) := by omega
                    have HL := Lib.hid hl
                    clear hl
                    go_wp2
                    go_ret
                    have h1 := HCH.out
                    rw [if_neg HN.out, decide_eq_false HL.out] at h1
                    exact ⟨by rw [← h1]; rfl, BW.out⟩
              · have bb : ¬ ((j : Int) < (yl : Int)) := by omega
                have y0 : y = 0 := by rw [HV.out.2, List.getD_eq_getElem?_getD, List.getElem?_eq_none (by have := HYL.out.2.1; omega)]; rfl
                subst y0
                have HJ := Lib.hid (And.intro hja hjb)
                clear hja hjb
                by_cases hxy : x = 0
                · subst hxy
                  go_wp2
                  go_roundw
                  case rel => exact ⟨j, _, by go_num, by omega, rfl, by have := HCH.out; simpa using this, by first | rfl | trivial⟩
                  case measure => simp only [intOf]; go_num
                · have bn : ¬ ((x : Int) = (0 : Int)) := by omega
                  have HN := Lib.hid hxy
                  clear hxy
                  by_cases hl : x < 0
                  · omega
                  · have bl : ¬ ((x : Int) < (0 : Int)) := by omega
                    have HL := Lib.hid hl
                    clear hl
                    go_wp2
                    go_ret
                    have h1 := HCH.out
                    rw [if_neg HN.out, decide_eq_false HL.out] at h1
                    exact ⟨by rw [← h1]; rfl, BW.out⟩
            · have ba : ¬ ((j : Int) < (el : Int)) := by omega
              have hjb : j < yl := by have := HYL.out.2.2.1; omega
              have bb : (j : Int) < (yl : Int) := by omega
              rcases HY8.out.2 with ⟨_, h0⟩ | ⟨adb, cb, heb, _, _, hcb⟩
              · omega
              simp only [Value.slice.injEq, true_and] at heb
              obtain ⟨rfl, rfl⟩ := heb
              have fb : wr.cell? (adb.add j) = some (.int .u64 (y : Int)) := by rw [HV.out.2]; exact hcb j _ (ns_get _ _ (by have := HYL.out.2.1; omega))
              clear hcb
              have x0 : x = 0 := by rw [HV.out.1, List.getD_eq_getElem?_getD, List.getElem?_eq_none (by have := HYL.out.1; omega)]; rfl
              subst x0
              have HJ := Lib.hid (And.intro hja hjb)
              clear hja hjb
              by_cases hxy : 0 = y
              · subst hxy
                go_wp2
                go_roundw
                case rel => exact ⟨j, _, by go_num, by omega, rfl, by have := HCH.out; simpa using this, by first | rfl | trivial⟩
                case measure => simp only [intOf]; go_num
              · have bn : ¬ ((0 : Int) = (y : Int)) := by omega
                have HN := Lib.hid hxy
                clear hxy
                by_cases hl : 0 < y
                · have bl2 : 0 < y := hl
                  have bl : (0 : Int) < (y : Int) := by omega
                  have HL := Lib.hid hl
                  clear hl
                  go_wp2
                  go_ret
                  have h1 := HCH.out
                  rw [if_neg HN.out, decide_eq_true HL.out] at h1
                  exact ⟨by rw [← h1]; rfl, BW.out⟩
                · omega
end Go.Proofs.Ytdljpgihfjpnjaa
