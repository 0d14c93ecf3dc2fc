/- Disks: a loss of power: the walk. -/
import Derived.Test.YtbbbgpdhdlknjaaDk
import Derived.Laws.Cover3
namespace Go.Proofs.Ytbbbgpdhdlknjaa
set_option linter.unusedVariables false
set_option linter.unusedSimpArgs false
open Go.RowKit Go.Lib

theorem adds_lit [Inhabited (Option Nat)] (w : World) (i : Nat) (hi : i < 16) (v : Value) (b : Bs) (hr : RdU w v b) :
    Calls Try.prog 42 #[.int .i64 (i : Int), v] w fun e w' => ∃ g1 g2, e = .returned (.agg #[.func (.func 66) #[] #[.pointer (some ⟨g1, 0, none⟩), .pointer (some ⟨g2, 0, none⟩)], .int .i64 (i : Int), v]) ∧ StF w' 66 g1 g2 (.put i b) ∧ Below w.heap.size w w' := by
  refine (adds_any w i hi v b hr).mono ?_
  rintro e w' ⟨g1, g2, rfl, s3, b3⟩
  refine ⟨g1, g2, rfl, ?_, b3⟩
  obtain ⟨hi, x1, x2, xv, hx, y1, y2, y3⟩ := s3
  simp only [stV, List.cons.injEq, Value.func.injEq, Array.mk.injEq, Value.pointer.injEq, Option.some.injEq, Addr.mk.injEq, and_true, true_and, Value.int.injEq] at hx
  obtain ⟨⟨rfl, rfl⟩, rfl⟩ := hx
  exact ⟨rfl, hi, _, y1, y2, y3⟩

theorem run_field0 (F : Nat) (bs cs : Array Value) (i : Int) (a : Option Addr) (n c : Nat) (w : World) : (Instr.field 78 (.agg #[.func (.func F) bs cs, .int .i64 i, .slice a n c]) 0).run Try.prog w = .ok (.func (.func F) bs cs) w := by kernel_rfl

set_option maxRecDepth 100000 in
set_option maxHeartbeats 4000000 in
theorem crash_any [Inhabited (Option Nat)] (w : World) (D S : Nat) (wv : Value) (k : Dk) (h : DkAt w D S wv k) (hok : Ok k) (hw : k.wait.length ≤ 1000000) (keep tear : Int) (h1 : -9223372036854775808 ≤ keep) (h2 : keep ≤ 9223372036854775807) (h3 : -9223372036854775808 ≤ tear) (h4 : tear ≤ 9223372036854775807) (hav : Av w.heap.size) :
    Calls Try.prog 14 #[.pointer (some ⟨D, 0, none⟩), .int .i64 keep, .int .i64 tear] w fun e w' => e = .returned (.int .i64 0) ∧ ∃ wv', DkAt w' D S wv' (crashK k keep tear) ∧ Mv D S wv w w' ∧ Grew w wv wv' := by
  have T := Lib.hid (there_any w D S wv k h)
  have hh := h
  obtain ⟨vs, ns, css, hd⟩ := hh
  have hc17 := hd.cd.cell 17 _ (dkC_tail hd.ln.1 0)
  obtain ⟨av, cv, rfl⟩ := hd.wt.slice
  obtain ⟨L, hL⟩ : ∃ L, L = k.wait.length := ⟨_, rfl⟩
  rw [← hL] at h hc17 ⊢
  obtain ⟨n, hn⟩ : ∃ n, n = modN keep L := ⟨_, rfl⟩
  have M1 := Lib.hid (modulo_nat w keep L h1 h2 (by omega))
  rw [← hn] at M1
  have ST := Lib.hid (settle_any w D S (.slice av L cv) k h n (by rw [← hL, hn]; exact modN_le _ _) hw hok.pre hav)
  have CR : Hid (crashK k keep tear = ⟨tornS (settleK k n).set (k.wait.drop n) tear, tornS (settleK k n).set (k.wait.drop n) tear, [], 0, false, false⟩) := Lib.hid (by unfold crashK; rw [← hL, ← hn])
  have HOK := Lib.hid hok
  have HT := Lib.hid (And.intro h3 h4)
  have HL := Lib.hid hL
  have AV := Lib.hid hav
  have bL : (L : Int) ≤ 1000000 := by omega
  clear h h1 h2 h3 h4 hd hok hn hw hL hav
  go_enter Try.func14, Try.ntmps14
  go_wp2_with fail
  refine (T.out).mono ?_
  rintro e w1 ⟨rfl, rfl⟩
  go_wp2_with fail
  refine (M1.out).mono ?_
  rintro e w1 ⟨rfl, rfl⟩
  go_wp2_with fail
  refine (ST.out).mono ?_
  rintro e w2 ⟨rfl, wv2, d2, m2, g2⟩
  have MS := Lib.hid (And.intro m2 g2)
  clear m2 g2 hc17
  obtain ⟨vs2, ns2, css2, hd2⟩ := d2
  obtain ⟨a2, c2, rfl⟩ := hd2.wt.slice
  have hc17 := hd2.cd.cell 17 _ (dkC_tail hd2.ln.1 0)
  have OK2 := Lib.hid (HOK.out.settle n)
  obtain ⟨k2, hk2⟩ : ∃ k2, k2 = settleK k n := ⟨_, rfl⟩
  have hw2 : k2.wait = k.wait.drop n := by rw [hk2]; rfl
  rw [← hk2] at hd2 OK2 CR MS hc17
  rw [← hw2] at CR
  obtain ⟨L2, hL2⟩ : ∃ L2, L2 = k2.wait.length := ⟨_, rfl⟩
  rw [← hL2] at hd2 MS hc17
  have DQ := Lib.hid hd2
  have SL : Hid (k2.set.length = 16 ∧ ∀ l ∈ k2.set, l.length ≤ 16777216) := Lib.hid ⟨OK2.out.sl, OK2.out.pre 0⟩
  have bL2 : (L2 : Int) ≤ 1000000 := by
    rw [hL2, hw2, List.length_drop]; have := HL.out; omega
  cases hr : k2.wait with
  | nil =>
    obtain rfl : L2 = 0 := by rw [hL2, hr]; rfl
    have CK : Hid (crashK k keep tear = ⟨k2.set, k2.set, [], 0, false, false⟩) := Lib.hid (by rw [CR.out, hr]; rfl)
    have MQ : Hid (Mv D S (.slice av L cv) w w2) := Lib.hid MS.out.1
    have GQ : Hid (Grew w (.slice av L cv) (.slice a2 0 c2)) := Lib.hid MS.out.2
    clear hd2 hL2 hr hk2 hw2 CR
    go_wp2_with (with_reducible refine stopStore 62 ?_)
    refine Stop.go ?_
    refine wpList_store_part rfl 62 (.tmp 65) (.tmp 63) rfl D 1 65 rfl _ noLogs rfl DQ.out.cd (by rw [dkC_length DQ.out.ln.1]; decide) noLogs_one infoLogs ?_
    intro w7 k7 o7
    rw [dkC_setNows DQ.out.ln.1] at k7
    have D7 : Hid (DkV w7 D S vs2 noLogs (.slice a2 0 c2) css2 { k2 with now := nowJ k2.set 0 }) := Lib.hid (DQ.out.nows k7 o7 (by rw [nowJ_zero]; exact Lg.none _))
    have M7 : Hid (Mv D S (.slice a2 0 c2) w2 w7) := Lib.hid (Mv.disk o7)
    clear k7 o7
    go_wp2_with fail
    go_loopw [66] (fun v66 wr => Mv D S (.slice a2 0 c2) w7 wr ∧ ∃ j : Nat, j ≤ 16 ∧ v66 = .int .i64 (j : Int) ∧ ∃ ns', DkV wr D S vs2 ns' (.slice a2 0 c2) css2 { k2 with now := nowJ k2.set j })
      (fun v _ => 16 - (RowKit.intOf v).toNat)
    case atStart => exact ⟨Mv.refl _ _ _ _, 0, Nat.zero_le _, rfl, noLogs, D7.out⟩
    case round =>
      obtain ⟨hm, j, hj, rfl, ns1, hd⟩ := hrel
      have HM := Lib.hid hm
      have HR := Lib.hid hd
      clear hm
      by_cases hjn : j < 16
      · have ij : (j : Int) < 16 := by omega
        obtain ⟨u, b, hu, hb, hrd, hg⟩ := hd.lv.get hjn
        obtain ⟨a1, c1, rfl⟩ := hrd.slice
        have hcs := hd.cs.cell j _ hu
        have hc0 := hd.cd.cell 0 _ rfl
        have BD : Hid (Below wr.heap.size wr wr.drew) := Lib.hid ((Below.refl _ wr).drew)
        have hbl : b.length ≤ 100000000 := by have := SL.out.2 b (List.mem_of_getElem? hb); omega
        have CL := Lib.hid (clone_any wr.drew _ b (hrd.fresh BD.out) hbl)
        obtain ⟨m1, hm1⟩ : ∃ m1, m1 = b.length := ⟨_, rfl⟩
        have HB := Lib.hid (And.intro hb hm1)
        rw [← hm1] at hcs CL
        have hS : Hid (wr.drew.cell? ⟨D, 0, none⟩ = some (.pointer (some ⟨S, 0, none⟩)) ∧ wr.drew.cell? ⟨S, j, none⟩ = some (.slice a1 m1 c1)) := Lib.hid ⟨hc0, hcs⟩
        have HJ := Lib.hid (And.intro hj hjn)
        clear hu hb hrd hg hcs hc0 hbl hm1 hj hjn hd
        go_wp2_with fail
        refine pf_start 15 rfl (fun w' => w'.cell? ⟨D, 0, none⟩ = some (.pointer (some ⟨S, 0, none⟩)) ∧ w'.cell? ⟨S, j, none⟩ = some (.slice a1 m1 c1)) (fun i => i == 14) (by kernel_rfl) ?_
        refine pf_take (i := 0) 69 rfl rfl rfl (by kernel_rfl) (by kernel_rfl) (by kernel_rfl) (by kernel_rfl) (by kernel_rfl) (by simp [Act.put]) hS.out ?_
        apply Exists.intro
        refine And.intro (fun w' hS' => ?_) ?_
        · clear hS'
          go_wp2
          first
            | exact ⟨trivial, rfl⟩
            | exact rfl
        refine pf_take (i := 1) 70 rfl rfl rfl (by kernel_rfl) (by kernel_rfl) (by kernel_rfl) (by kernel_rfl) (by kernel_rfl) (by simp [Act.put]) hS.out ?_
        apply Exists.intro
        refine And.intro (fun w' hS' => ?_) ?_
        · clear hS'
          go_wp2
          first
            | exact ⟨trivial, rfl⟩
            | exact rfl
        refine pf_take (i := 2) 71 rfl rfl rfl (by kernel_rfl) (by kernel_rfl) (by kernel_rfl) (by kernel_rfl) (by kernel_rfl) (by simp [Act.put]) hS.out ?_
        apply Exists.intro
        refine And.intro (fun w' hS' => ?_) ?_
        · clear hS'
          go_wp2
          first
            | exact ⟨trivial, rfl⟩
            | exact rfl
        refine pf_take (i := 3) 72 rfl rfl rfl (by kernel_rfl) (by kernel_rfl) (by kernel_rfl) (by kernel_rfl) (by kernel_rfl) (by simp [Act.put]) hS.out ?_
        apply Exists.intro
        refine And.intro (fun w' hS' => ?_) ?_
        · clear hS'
          go_wp2
          first
            | exact ⟨trivial, rfl⟩
            | exact rfl
        refine pf_take (i := 4) 73 rfl rfl rfl (by kernel_rfl) (by kernel_rfl) (by kernel_rfl) (by kernel_rfl) (by kernel_rfl) (by simp [Act.put]) hS.out ?_
        apply Exists.intro
        refine And.intro (fun w' hS' => ?_) ?_
        · clear hS'
          go_wp2
          first
            | exact ⟨trivial, rfl⟩
            | exact rfl
        refine pf_take (i := 5) 74 rfl rfl rfl (by kernel_rfl) (by kernel_rfl) (by kernel_rfl) (by kernel_rfl) (by kernel_rfl) (by simp [Act.put]) hS.out ?_
        apply Exists.intro
        refine And.intro (fun w' hS' => ?_) ?_
        · have hc := hS'.1
          clear hS'
          go_wp2
          first
            | exact ⟨trivial, rfl⟩
            | exact rfl
        refine pf_take (i := 6) 75 rfl rfl rfl (by kernel_rfl) (by kernel_rfl) (by kernel_rfl) (by kernel_rfl) (by kernel_rfl) (by simp [Act.put]) hS.out ?_
        apply Exists.intro
        refine And.intro (fun w' hS' => ?_) ?_
        · clear hS'
          go_wp2
          first
            | exact ⟨trivial, rfl⟩
            | exact rfl
        refine pf_take (i := 7) 76 rfl rfl rfl (by kernel_rfl) (by kernel_rfl) (by kernel_rfl) (by kernel_rfl) (by kernel_rfl) (by simp [Act.put]) hS.out ?_
        apply Exists.intro
        refine And.intro (fun w' hS' => ?_) ?_
        · clear hS'
          go_wp2
          first
            | exact ⟨trivial, rfl⟩
            | exact rfl
        refine pf_take (i := 8) 77 rfl rfl rfl (by kernel_rfl) (by kernel_rfl) (by kernel_rfl) (by kernel_rfl) (by kernel_rfl) (by simp [Act.put]) hS.out ?_
        apply Exists.intro
        refine And.intro (fun w' hS' => ?_) ?_
        · clear hS'
          go_wp2
          first
            | exact ⟨trivial, rfl⟩
            | exact rfl
        refine pf_take (i := 9) 78 rfl rfl rfl (by kernel_rfl) (by kernel_rfl) (by kernel_rfl) (by kernel_rfl) (by kernel_rfl) (by simp [Act.put]) hS.out ?_
        apply Exists.intro
        refine And.intro (fun w' hS' => ?_) ?_
        · have hc := hS'.2
          clear hS'
          go_wp2
          first
            | exact ⟨trivial, rfl⟩
            | exact rfl
        refine pf_free (i := 11) 80 rfl rfl rfl (by kernel_rfl) (by kernel_rfl) (by kernel_rfl) rfl (by simp [Act.put]) (fun _ => hS.out) ?_
        apply Exists.intro
        refine And.intro (fun w' => ?_) ?_
        · go_wp2
          first
            | exact ⟨trivial, rfl⟩
            | exact rfl
        refine pf_free (i := 12) 81 rfl rfl rfl (by kernel_rfl) (by kernel_rfl) (by kernel_rfl) rfl (by simp [Act.put]) (fun _ => hS.out) ?_
        apply Exists.intro
        refine And.intro (fun w' => ?_) ?_
        · go_wp2
          first
            | exact ⟨trivial, rfl⟩
            | exact rfl
        refine pf_heavy (i := 10) rfl (by kernel_rfl) ?_
        go_wp2_with fail
        refine CL.out.mono ?_
        rintro e w8 ⟨v8, rfl, o8, b8⟩
        have B8 : Hid (Below wr.heap.size wr w8) := Lib.hid (BD.out.tr b8)
        have D8 := Lib.hid (HR.out.fresh B8.out)
        rw [HB.out.2] at o8
        have R8 := Lib.hid (RdU.of_own o8 (AV.out.mono (Nat.le_trans MQ.out.size (Nat.le_trans M7.out.size HM.out.size))))
        have h1 := D8.out.cd.cell 0 _ rfl
        have h2 : w8.cell? ⟨S, j, none⟩ = some (.slice a1 m1 c1) := by
          have := hS.out.2
          have hs := HR.out.cs
          unfold CB at hs
          have h8 := D8.out.cs
          unfold CB at h8
          simp only [World.cell?] at this ⊢
          rw [h8]
          have hs' : wr.drew.heap[S]? = _ := hs
          rw [hs'] at this
          exact this
        obtain ⟨a8, c8, rfl⟩ := R8.out.slice
        clear hS o8 b8 CL
        have hS : Hid (w8.cell? ⟨D, 0, none⟩ = some (.pointer (some ⟨S, 0, none⟩)) ∧ w8.cell? ⟨S, j, none⟩ = some (.slice a1 m1 c1)) := Lib.hid ⟨h1, h2⟩
        clear h1 h2
        go_wp2
        refine And.intro hS.out ?_
        refine pf_take (i := 13) 82 rfl rfl rfl (by kernel_rfl) (by kernel_rfl) (by kernel_rfl) (by kernel_rfl) (by kernel_rfl) (by simp [Act.put]) hS.out ?_
        apply Exists.intro
        refine And.intro (fun w' hS' => ?_) ?_
        · clear hS'
          go_wp2
          first
            | exact ⟨trivial, rfl⟩
            | exact rfl
        refine pf_last (i := 14) rfl (by kernel_rfl) (by kernel_rfl) ?_
        refine wpList_store_cell rfl 29 (.tmp 82) (.tmp 79) rfl D (1 + j) 65 rfl _ (.slice a8 b.length c8) rfl rfl D8.out.cd (by rw [dkC_length D8.out.ln.1]; have := HJ.out.2; omega) infoSl8 ?_
        intro w9 k9 o9
        rw [Nat.add_comm 1 j, dkC_setNow D8.out.ln.1 HJ.out.2] at k9
        have M9 : Hid (Mv D S (.slice a2 0 c2) wr w9) := Lib.hid ((Mv.fresh B8.out).tr' (Mv.disk o9))
        have D9 : Hid (DkV w9 D S vs2 (ns1.set j (.slice a8 b.length c8)) (.slice a2 0 c2) css2 { k2 with now := nowJ k2.set (j + 1) }) := Lib.hid (D8.out.nows k9 o9 (by
          rw [nowJ_succ SL.out.1 HJ.out.2 HB.out.1]
          have kt : Kt [65] w8 w9 := Kt.only o9 D8.out.cd.tag (by simp)
          exact (D8.out.ln.kt kt (by decide)).set (R8.out.kt kt (by decide))))
        clear k9 o9
        go_wp2
        refine pf_done (by kernel_rfl) ?_
        go_wp2
        go_roundw
        case rel => exact ⟨HM.out.tr' M9.out, j + 1, HJ.out.2, by go_num, _, D9.out⟩
        case measure =>
          have := HJ.out.2
          simp only [RowKit.intOf]
          omega
      · have ij : ¬ ((j : Int) < 16) := by omega
        obtain rfl : j = 16 := by omega
        clear hd hj hjn
        go_wp2_with (with_reducible refine stopStore 63 ?_)
        refine Stop.go ?_
        refine wpList_store_cell rfl 63 (.tmp 89) (.const (.slice none 0 0)) rfl D 17 65 rfl _ (.slice none 0 0) rfl rfl HR.out.cd (by rw [dkC_length HR.out.ln.1]; omega) infoSlS ?_
        intro x1 k1 o1
        rw [dkC_setWait HR.out.ln.1] at k1
        have K1 := Lib.hid k1
        have O1 := Lib.hid o1
        clear k1 o1
        go_wp2_with (with_reducible refine stopStore 4 ?_)
        refine Stop.go ?_
        refine wpList_store_cell rfl 4 (.tmp 91) (.const (.bool false)) rfl D 19 65 rfl _ (.bool false) rfl rfl K1.out (by rw [dkC_length HR.out.ln.1]; omega) infoBool ?_
        intro x2 k2 o2
        rw [dkC_setArmed HR.out.ln.1] at k2
        have K2 := Lib.hid k2
        have O2 := Lib.hid o2
        clear k2 o2
        go_wp2_with (with_reducible refine stopStore 4 ?_)
        refine Stop.go ?_
        refine wpList_store_cell rfl 4 (.tmp 93) (.const (.bool false)) rfl D 20 65 rfl _ (.bool false) rfl rfl K2.out (by rw [dkC_length HR.out.ln.1]; omega) infoBool ?_
        intro x3 k3 o3
        rw [dkC_setDead HR.out.ln.1] at k3
        have K3 := Lib.hid k3
        have O3 := Lib.hid o3
        clear k3 o3
        go_wp2_with (with_reducible refine stopStore 3 ?_)
        refine Stop.go ?_
        refine wpList_store_cell rfl 3 (.tmp 95) (.const (.int .i64 0)) rfl D 18 65 rfl _ (.int .i64 0) rfl rfl K3.out (by rw [dkC_length HR.out.ln.1]; omega) infoInt ?_
        intro x4 k4 o4
        rw [dkC_setFuse HR.out.ln.1] at k4
        have K4 := Lib.hid k4
        have O4 := Lib.hid o4
        clear k4 o4
        go_wp2
        go_ret
        have kt : Kt [65] wr x4 := (((Kt.only O1.out HR.out.cd.tag (by simp)).tr (Kt.only O2.out K1.out.tag (by simp))).tr (Kt.only O3.out K2.out.tag (by simp))).tr (Kt.only O4.out K3.out.tag (by simp))
        have DF := HR.out.reset K4.out kt
        rw [show ({ k2 with now := nowJ k2.set 16 } : Dk).set = k2.set from rfl, show ({ k2 with now := nowJ k2.set 16 } : Dk).now = nowJ k2.set 16 from rfl, nowJ_full SL.out.1] at DF
        refine ⟨rfl, .slice none 0 0, ⟨_, _, _, by rw [CK.out]; exact DF⟩, ?_, fun g hg => by cases hg⟩
        exact MQ.out.tr (((((M7.out.tr' HM.out).tr' (Mv.disk O1.out)).tr' (Mv.disk O2.out)).tr' (Mv.disk O3.out)).tr' (Mv.disk O4.out)) GQ.out
  | cons x rest =>
    obtain ⟨cs, hcs⟩ : ∃ z, css2[0]? = some z := ⟨_, List.getElem?_eq_getElem (by have := hd2.wl; rw [hr] at this; rw [this]; simp)⟩
    have hx0 : k2.wait[0]? = some x := by rw [hr]; rfl
    have hst := hd2.ws 0 x cs hx0 hcs
    have hL2' : 0 < (L2 : Int) := by rw [hL2, hr, List.length_cons]; omega
    obtain ⟨g0, o0, rfl⟩ : ∃ g0 o0, a2 = some ⟨g0, o0, none⟩ := by
      rcases hd2.wt with ⟨_, h0, _⟩ | ⟨g0, o0, _, _, he, _⟩
      · rw [← hL2] at h0; omega
      · simp only [Value.slice.injEq] at he
        exact ⟨g0, o0, he.1⟩
    obtain ⟨F, g1, g2, i, a1, n1, c1, rfl, hf⟩ := hst.fn
    have hat : At w2 g0 o0 (stV F g1 g2 i (.slice a1 n1 c1)) := by
      have h := hd2.step hL2 hcs
      intro j u hj
      have := h j u hj
      rw [add_at, add_at] at this
      rw [show o0 + j = o0 + 0 * 3 + j by omega]
      exact this
    have hat2 := hat 2 _ rfl
    cases a1 with
    | none =>
      have CK : Hid (crashK k keep tear = ⟨k2.set, k2.set, [], 0, false, false⟩) := Lib.hid (by
        have e : tornS k2.set (x :: rest) tear = k2.set := by
          cases x with
          | cut i n => rfl
          | put i b =>
            obtain ⟨hi, y1, y2, xv, hx, z1, z2, z3⟩ := hst
            simp only [stV, List.cons.injEq, and_true] at hx
            obtain ⟨_, _, rfl⟩ := hx
            have hb : b = [] := by
              rcases z3.1.2 with ⟨_, h0⟩ | ⟨_, _, he, _⟩
              · exact List.eq_nil_of_length_eq_zero h0
              · cases he
            subst hb
            simp only [tornS, List.take_nil, app_put, List.append_nil]
            rw [List.getD_eq_getElem?_getD, List.getElem?_eq_getElem (by rw [SL.out.1]; exact hi)]
            simp
        rw [CR.out, hr, e])
      have MQ : Hid (Mv D S (.slice av L cv) w w2) := Lib.hid MS.out.1
      have GQ : Hid (Grew w (.slice av L cv) (.slice (some ⟨g0, o0, none⟩) L2 c2)) := Lib.hid MS.out.2
      have HAT := Lib.hid hat
      clear hd2 hL2 hr hk2 hw2 CR hcs hx0 hst hf hat
      have hneq := fun u : World => run_neq_slice_nil (P := Try.prog) (w := u) 29 _ none n1 c1 Try.underlying29
      go_wp2_with (with_reducible refine stopStore 62 ?_)
      refine Stop.go ?_
      refine wpList_store_part rfl 62 (.tmp 65) (.tmp 63) rfl D 1 65 rfl _ noLogs rfl DQ.out.cd (by rw [dkC_length DQ.out.ln.1]; decide) noLogs_one infoLogs ?_
      intro w7 k7 o7
      rw [dkC_setNows DQ.out.ln.1] at k7
      have D7 : Hid (DkV w7 D S vs2 noLogs (.slice (some ⟨g0, o0, none⟩) L2 c2) css2 { k2 with now := nowJ k2.set 0 }) := Lib.hid (DQ.out.nows k7 o7 (by rw [nowJ_zero]; exact Lg.none _))
      have M7 : Hid (Mv D S (.slice (some ⟨g0, o0, none⟩) L2 c2) w2 w7) := Lib.hid (Mv.disk o7)
      clear k7 o7
      go_wp2_with fail
      go_loopw [66] (fun v66 wr => Mv D S (.slice (some ⟨g0, o0, none⟩) L2 c2) w7 wr ∧ ∃ j : Nat, j ≤ 16 ∧ v66 = .int .i64 (j : Int) ∧ ∃ ns', DkV wr D S vs2 ns' (.slice (some ⟨g0, o0, none⟩) L2 c2) css2 { k2 with now := nowJ k2.set j })
        (fun v _ => 16 - (RowKit.intOf v).toNat)
      case atStart => exact ⟨Mv.refl _ _ _ _, 0, Nat.zero_le _, rfl, noLogs, D7.out⟩
      case round =>
        obtain ⟨hm, j, hj, rfl, ns1, hd⟩ := hrel
        have HM := Lib.hid hm
        have HR := Lib.hid hd
        clear hm
        by_cases hjn : j < 16
        · have ij : (j : Int) < 16 := by omega
          obtain ⟨u, b, hu, hb, hrd, hg⟩ := hd.lv.get hjn
          obtain ⟨a1, c1, rfl⟩ := hrd.slice
          have hcs := hd.cs.cell j _ hu
          have hc0 := hd.cd.cell 0 _ rfl
          have BD : Hid (Below wr.heap.size wr wr.drew) := Lib.hid ((Below.refl _ wr).drew)
          have hbl : b.length ≤ 100000000 := by have := SL.out.2 b (List.mem_of_getElem? hb); omega
          have CL := Lib.hid (clone_any wr.drew _ b (hrd.fresh BD.out) hbl)
          obtain ⟨m1, hm1⟩ : ∃ m1, m1 = b.length := ⟨_, rfl⟩
          have HB := Lib.hid (And.intro hb hm1)
          rw [← hm1] at hcs CL
          have hS : Hid (wr.drew.cell? ⟨D, 0, none⟩ = some (.pointer (some ⟨S, 0, none⟩)) ∧ wr.drew.cell? ⟨S, j, none⟩ = some (.slice a1 m1 c1)) := Lib.hid ⟨hc0, hcs⟩
          have HJ := Lib.hid (And.intro hj hjn)
          clear hu hb hrd hg hcs hc0 hbl hm1 hj hjn hd
          go_wp2_with fail
          refine pf_start 15 rfl (fun w' => w'.cell? ⟨D, 0, none⟩ = some (.pointer (some ⟨S, 0, none⟩)) ∧ w'.cell? ⟨S, j, none⟩ = some (.slice a1 m1 c1)) (fun i => i == 14) (by kernel_rfl) ?_
          refine pf_take (i := 0) 69 rfl rfl rfl (by kernel_rfl) (by kernel_rfl) (by kernel_rfl) (by kernel_rfl) (by kernel_rfl) (by simp [Act.put]) hS.out ?_
          apply Exists.intro
          refine And.intro (fun w' hS' => ?_) ?_
          · clear hS'
            go_wp2
            first
              | exact ⟨trivial, rfl⟩
              | exact rfl
          refine pf_take (i := 1) 70 rfl rfl rfl (by kernel_rfl) (by kernel_rfl) (by kernel_rfl) (by kernel_rfl) (by kernel_rfl) (by simp [Act.put]) hS.out ?_
          apply Exists.intro
          refine And.intro (fun w' hS' => ?_) ?_
          · clear hS'
            go_wp2
            first
              | exact ⟨trivial, rfl⟩
              | exact rfl
          refine pf_take (i := 2) 71 rfl rfl rfl (by kernel_rfl) (by kernel_rfl) (by kernel_rfl) (by kernel_rfl) (by kernel_rfl) (by simp [Act.put]) hS.out ?_
          apply Exists.intro
          refine And.intro (fun w' hS' => ?_) ?_
          · clear hS'
            go_wp2
            first
              | exact ⟨trivial, rfl⟩
              | exact rfl
          refine pf_take (i := 3) 72 rfl rfl rfl (by kernel_rfl) (by kernel_rfl) (by kernel_rfl) (by kernel_rfl) (by kernel_rfl) (by simp [Act.put]) hS.out ?_
          apply Exists.intro
          refine And.intro (fun w' hS' => ?_) ?_
          · clear hS'
            go_wp2
            first
              | exact ⟨trivial, rfl⟩
              | exact rfl
          refine pf_take (i := 4) 73 rfl rfl rfl (by kernel_rfl) (by kernel_rfl) (by kernel_rfl) (by kernel_rfl) (by kernel_rfl) (by simp [Act.put]) hS.out ?_
          apply Exists.intro
          refine And.intro (fun w' hS' => ?_) ?_
          · clear hS'
            go_wp2
            first
              | exact ⟨trivial, rfl⟩
              | exact rfl
          refine pf_take (i := 5) 74 rfl rfl rfl (by kernel_rfl) (by kernel_rfl) (by kernel_rfl) (by kernel_rfl) (by kernel_rfl) (by simp [Act.put]) hS.out ?_
          apply Exists.intro
          refine And.intro (fun w' hS' => ?_) ?_
          · have hc := hS'.1
            clear hS'
            go_wp2
            first
              | exact ⟨trivial, rfl⟩
              | exact rfl
          refine pf_take (i := 6) 75 rfl rfl rfl (by kernel_rfl) (by kernel_rfl) (by kernel_rfl) (by kernel_rfl) (by kernel_rfl) (by simp [Act.put]) hS.out ?_
          apply Exists.intro
          refine And.intro (fun w' hS' => ?_) ?_
          · clear hS'
            go_wp2
            first
              | exact ⟨trivial, rfl⟩
              | exact rfl
          refine pf_take (i := 7) 76 rfl rfl rfl (by kernel_rfl) (by kernel_rfl) (by kernel_rfl) (by kernel_rfl) (by kernel_rfl) (by simp [Act.put]) hS.out ?_
          apply Exists.intro
          refine And.intro (fun w' hS' => ?_) ?_
          · clear hS'
            go_wp2
            first
              | exact ⟨trivial, rfl⟩
              | exact rfl
          refine pf_take (i := 8) 77 rfl rfl rfl (by kernel_rfl) (by kernel_rfl) (by kernel_rfl) (by kernel_rfl) (by kernel_rfl) (by simp [Act.put]) hS.out ?_
          apply Exists.intro
          refine And.intro (fun w' hS' => ?_) ?_
          · clear hS'
            go_wp2
            first
              | exact ⟨trivial, rfl⟩
              | exact rfl
          refine pf_take (i := 9) 78 rfl rfl rfl (by kernel_rfl) (by kernel_rfl) (by kernel_rfl) (by kernel_rfl) (by kernel_rfl) (by simp [Act.put]) hS.out ?_
          apply Exists.intro
          refine And.intro (fun w' hS' => ?_) ?_
          · have hc := hS'.2
            clear hS'
            go_wp2
            first
              | exact ⟨trivial, rfl⟩
              | exact rfl
          refine pf_free (i := 11) 80 rfl rfl rfl (by kernel_rfl) (by kernel_rfl) (by kernel_rfl) rfl (by simp [Act.put]) (fun _ => hS.out) ?_
          apply Exists.intro
          refine And.intro (fun w' => ?_) ?_
          · go_wp2
            first
              | exact ⟨trivial, rfl⟩
              | exact rfl
          refine pf_free (i := 12) 81 rfl rfl rfl (by kernel_rfl) (by kernel_rfl) (by kernel_rfl) rfl (by simp [Act.put]) (fun _ => hS.out) ?_
          apply Exists.intro
          refine And.intro (fun w' => ?_) ?_
          · go_wp2
            first
              | exact ⟨trivial, rfl⟩
              | exact rfl
          refine pf_heavy (i := 10) rfl (by kernel_rfl) ?_
          go_wp2_with fail
          refine CL.out.mono ?_
          rintro e w8 ⟨v8, rfl, o8, b8⟩
          have B8 : Hid (Below wr.heap.size wr w8) := Lib.hid (BD.out.tr b8)
          have D8 := Lib.hid (HR.out.fresh B8.out)
          rw [HB.out.2] at o8
          have R8 := Lib.hid (RdU.of_own o8 (AV.out.mono (Nat.le_trans MQ.out.size (Nat.le_trans M7.out.size HM.out.size))))
          have h1 := D8.out.cd.cell 0 _ rfl
          have h2 : w8.cell? ⟨S, j, none⟩ = some (.slice a1 m1 c1) := by
            have := hS.out.2
            have hs := HR.out.cs
            unfold CB at hs
            have h8 := D8.out.cs
            unfold CB at h8
            simp only [World.cell?] at this ⊢
            rw [h8]
            have hs' : wr.drew.heap[S]? = _ := hs
            rw [hs'] at this
            exact this
          obtain ⟨a8, c8, rfl⟩ := R8.out.slice
          clear hS o8 b8 CL
          have hS : Hid (w8.cell? ⟨D, 0, none⟩ = some (.pointer (some ⟨S, 0, none⟩)) ∧ w8.cell? ⟨S, j, none⟩ = some (.slice a1 m1 c1)) := Lib.hid ⟨h1, h2⟩
          clear h1 h2
          go_wp2
          refine And.intro hS.out ?_
          refine pf_take (i := 13) 82 rfl rfl rfl (by kernel_rfl) (by kernel_rfl) (by kernel_rfl) (by kernel_rfl) (by kernel_rfl) (by simp [Act.put]) hS.out ?_
          apply Exists.intro
          refine And.intro (fun w' hS' => ?_) ?_
          · clear hS'
            go_wp2
            first
              | exact ⟨trivial, rfl⟩
              | exact rfl
          refine pf_last (i := 14) rfl (by kernel_rfl) (by kernel_rfl) ?_
          refine wpList_store_cell rfl 29 (.tmp 82) (.tmp 79) rfl D (1 + j) 65 rfl _ (.slice a8 b.length c8) rfl rfl D8.out.cd (by rw [dkC_length D8.out.ln.1]; have := HJ.out.2; omega) infoSl8 ?_
          intro w9 k9 o9
          rw [Nat.add_comm 1 j, dkC_setNow D8.out.ln.1 HJ.out.2] at k9
          have M9 : Hid (Mv D S (.slice (some ⟨g0, o0, none⟩) L2 c2) wr w9) := Lib.hid ((Mv.fresh B8.out).tr' (Mv.disk o9))
          have D9 : Hid (DkV w9 D S vs2 (ns1.set j (.slice a8 b.length c8)) (.slice (some ⟨g0, o0, none⟩) L2 c2) css2 { k2 with now := nowJ k2.set (j + 1) }) := Lib.hid (D8.out.nows k9 o9 (by
            rw [nowJ_succ SL.out.1 HJ.out.2 HB.out.1]
            have kt : Kt [65] w8 w9 := Kt.only o9 D8.out.cd.tag (by simp)
            exact (D8.out.ln.kt kt (by decide)).set (R8.out.kt kt (by decide))))
          clear k9 o9
          go_wp2
          refine pf_done (by kernel_rfl) ?_
          go_wp2
          go_roundw
          case rel => exact ⟨HM.out.tr' M9.out, j + 1, HJ.out.2, by go_num, _, D9.out⟩
          case measure =>
            have := HJ.out.2
            simp only [RowKit.intOf]
            omega
        · have ij : ¬ ((j : Int) < 16) := by omega
          obtain rfl : j = 16 := by omega
          clear hd hj hjn
          go_wp2_with (with_reducible refine stopStore 63 ?_)
          refine Stop.go ?_
          refine wpList_store_cell rfl 63 (.tmp 89) (.const (.slice none 0 0)) rfl D 17 65 rfl _ (.slice none 0 0) rfl rfl HR.out.cd (by rw [dkC_length HR.out.ln.1]; omega) infoSlS ?_
          intro x1 k1 o1
          rw [dkC_setWait HR.out.ln.1] at k1
          have K1 := Lib.hid k1
          have O1 := Lib.hid o1
          clear k1 o1
          go_wp2_with (with_reducible refine stopStore 4 ?_)
          refine Stop.go ?_
          refine wpList_store_cell rfl 4 (.tmp 91) (.const (.bool false)) rfl D 19 65 rfl _ (.bool false) rfl rfl K1.out (by rw [dkC_length HR.out.ln.1]; omega) infoBool ?_
          intro x2 k2 o2
          rw [dkC_setArmed HR.out.ln.1] at k2
          have K2 := Lib.hid k2
          have O2 := Lib.hid o2
          clear k2 o2
          go_wp2_with (with_reducible refine stopStore 4 ?_)
          refine Stop.go ?_
          refine wpList_store_cell rfl 4 (.tmp 93) (.const (.bool false)) rfl D 20 65 rfl _ (.bool false) rfl rfl K2.out (by rw [dkC_length HR.out.ln.1]; omega) infoBool ?_
          intro x3 k3 o3
          rw [dkC_setDead HR.out.ln.1] at k3
          have K3 := Lib.hid k3
          have O3 := Lib.hid o3
          clear k3 o3
          go_wp2_with (with_reducible refine stopStore 3 ?_)
          refine Stop.go ?_
          refine wpList_store_cell rfl 3 (.tmp 95) (.const (.int .i64 0)) rfl D 18 65 rfl _ (.int .i64 0) rfl rfl K3.out (by rw [dkC_length HR.out.ln.1]; omega) infoInt ?_
          intro x4 k4 o4
          rw [dkC_setFuse HR.out.ln.1] at k4
          have K4 := Lib.hid k4
          have O4 := Lib.hid o4
          clear k4 o4
          go_wp2
          go_ret
          have kt : Kt [65] wr x4 := (((Kt.only O1.out HR.out.cd.tag (by simp)).tr (Kt.only O2.out K1.out.tag (by simp))).tr (Kt.only O3.out K2.out.tag (by simp))).tr (Kt.only O4.out K3.out.tag (by simp))
          have DF := HR.out.reset K4.out kt
          rw [show ({ k2 with now := nowJ k2.set 16 } : Dk).set = k2.set from rfl, show ({ k2 with now := nowJ k2.set 16 } : Dk).now = nowJ k2.set 16 from rfl, nowJ_full SL.out.1] at DF
          refine ⟨rfl, .slice none 0 0, ⟨_, _, _, by rw [CK.out]; exact DF⟩, ?_, fun g hg => by cases hg⟩
          exact MQ.out.tr (((((M7.out.tr' HM.out).tr' (Mv.disk O1.out)).tr' (Mv.disk O2.out)).tr' (Mv.disk O3.out)).tr' (Mv.disk O4.out)) GQ.out
    | some a1 =>
      cases x with
      | cut i n =>
        obtain ⟨_, y1, y2, hx, _⟩ := hst
        simp [stV] at hx
      | put ib b =>
        obtain ⟨hib, y1, y2, xv, hx, z1, z2, z3⟩ := hst
        simp only [stV, List.cons.injEq, and_true, Value.int.injEq, true_and] at hx
        obtain ⟨hfn, hi0, hx0v⟩ := hx
        subst hi0
        subst hx0v
        clear hfn
        obtain ⟨a', c', he⟩ := z3.slice
        simp only [Value.slice.injEq] at he
        obtain ⟨rfl, rfl, rfl⟩ := he
        have hneq := fun u : World => run_neq_slice_nil (P := Try.prog) (w := u) 29 _ (some a1) b.length c1 Try.underlying29
        have hbl : b.length ≤ 16777216 := OK2.out.put_le (j := 0) hx0 hib
        obtain ⟨m, hm⟩ : ∃ m, m = b.length := ⟨_, rfl⟩
        have bm : (m : Int) ≤ 16777216 := by omega
        have bmc : m ≤ c1 := by
          rcases z3.1.2 with ⟨he, _⟩ | ⟨_, _, he, hnc, _⟩
          · cases he
          · simp only [Value.slice.injEq] at he
            omega
        obtain ⟨q, hq⟩ : ∃ q, q = modN tear m := ⟨_, rfl⟩
        have hqm : q ≤ m := by rw [hq]; exact modN_le _ _
        have bq : (q : Int) ≤ (c1 : Int) := by omega
        have CKS : Hid (crashK k keep tear = ⟨app k2.set (.put ib (b.take q)), app k2.set (.put ib (b.take q)), [], 0, false, false⟩) := Lib.hid (by rw [CR.out, hr, hq, hm]; rfl)
        have RB := Lib.hid z3
        have HQ := Lib.hid (And.intro hqm hm)
        have HI := Lib.hid hib
        rw [← hm] at hat hat2 hneq
        have HAT := Lib.hid hat
        have HQ2 := Lib.hid hq
        clear hd2 hL2 hr hk2 hw2 CR hcs hx0 hf hat z1 z2 z3 hbl hq hqm hm hib bmc
        go_wp2_with (with_reducible refine stopAt 43 ?_)
        refine Stop.go ?_
        refine wpList_load_agg rfl 78 (.tmp 42) rfl ⟨g0, o0, none⟩ rfl [.func (.func F) #[] #[.pointer (some ⟨g1, 0, none⟩), .pointer (some ⟨g2, 0, none⟩)], .int .i64 (ib : Int), .slice (some a1) m c1] _ HAT.out.load Try.underlying78 rfl (by exact infoStep) ?_
        clear hat2
        go_wp2_with (with_reducible refine stopStore 78 ?_)
        refine Stop.go ?_
        obtain ⟨w3, h3, k3, b3, s3⟩ := alloc_cb w2 78 [.nilFunc, .int .i64 0, .slice none 0 0]
        change wpList _ _ _ _ _ (w2.alloc (.cells [.nilFunc, .int .i64 0, .slice none 0 0].toArray 78))
        rw [← h3]
        refine wpList_store_var rfl 78 (.tmp 7) (.tmp 43) rfl w2.heap.size _ rfl _ (stV F g1 g2 (ib : Int) (.slice (some a1) m c1)) rfl k3 rfl (by simp [stV, Value.oneCell']) infoStep ?_
        intro w4 k4 o4
        have B4 := Lib.hid (Below.only b3 o4 (Nat.le_refl _))
        have K4 : Hid (CB w4 78 w2.heap.size (stV F g1 g2 (ib : Int) (.slice (some a1) m c1))) := Lib.hid k4
        clear h3 k3 b3 s3 k4 o4
        obtain ⟨wd, hwd⟩ : ∃ wd, wd = w4.drew := ⟨_, rfl⟩
        have BD : Hid (Below w2.heap.size w2 wd) := Lib.hid (by rw [hwd]; exact B4.out.drew)
        have hS : Hid (CB w4.drew 78 w2.heap.size (stV F g1 g2 (ib : Int) (.slice (some a1) m c1)) ∧ w4.drew.cell? ⟨D, 0, none⟩ = some (.pointer (some ⟨S, 0, none⟩))) := Lib.hid ⟨K4.out.drew, (DQ.out.fresh B4.out.drew).cd.cell 0 _ rfl⟩
        clear hc17
        go_wp2_with fail
        refine pl_start 18 rfl (fun w' => CB w' 78 w2.heap.size (stV F g1 g2 (ib : Int) (.slice (some a1) m c1)) ∧ w'.cell? ⟨D, 0, none⟩ = some (.pointer (some ⟨S, 0, none⟩))) (by kernel_rfl) ?_
        rw [← hwd] at hS ⊢
        clear hwd K4
        refine pl_take (i := 0) 44 rfl rfl rfl (by kernel_rfl) (by kernel_rfl) (by kernel_rfl) (by simp [Act.put]) hS.out ?_
        apply Exists.intro
        refine And.intro (fun w' hS' => ?_) ?_
        · clear hS'
          go_wp2
          first
            | exact ⟨trivial, rfl⟩
            | exact rfl
        refine pl_take (i := 1) 45 rfl rfl rfl (by kernel_rfl) (by kernel_rfl) (by kernel_rfl) (by simp [Act.put]) hS.out ?_
        apply Exists.intro
        refine And.intro (fun w' hS' => ?_) ?_
        · have hc := hS'.1.cell 1 _ rfl
          clear hS'
          go_wp2
          first
            | exact ⟨trivial, rfl⟩
            | exact rfl
        refine pl_take (i := 2) 46 rfl rfl rfl (by kernel_rfl) (by kernel_rfl) (by kernel_rfl) (by simp [Act.put]) hS.out ?_
        apply Exists.intro
        refine And.intro (fun w' hS' => ?_) ?_
        · clear hS'
          go_wp2
          first
            | exact ⟨trivial, rfl⟩
            | exact rfl
        refine pl_take (i := 3) 47 rfl rfl rfl (by kernel_rfl) (by kernel_rfl) (by kernel_rfl) (by simp [Act.put]) hS.out ?_
        apply Exists.intro
        refine And.intro (fun w' hS' => ?_) ?_
        · have hc := hS'.1.cell 2 _ rfl
          clear hS'
          go_wp2
          first
            | exact ⟨trivial, rfl⟩
            | exact rfl
        refine pl_take (i := 4) 48 rfl rfl rfl (by kernel_rfl) (by kernel_rfl) (by kernel_rfl) (by simp [Act.put]) hS.out ?_
        apply Exists.intro
        refine And.intro (fun w' hS' => ?_) ?_
        · clear hS'
          go_wp2
          first
            | exact ⟨trivial, rfl⟩
            | exact rfl
        refine pl_take (i := 5) 49 rfl rfl rfl (by kernel_rfl) (by kernel_rfl) (by kernel_rfl) (by simp [Act.put]) hS.out ?_
        apply Exists.intro
        refine And.intro (fun w' hS' => ?_) ?_
        · clear hS'
          go_wp2
          first
            | exact ⟨trivial, rfl⟩
            | exact rfl
        refine pl_take (i := 6) 50 rfl rfl rfl (by kernel_rfl) (by kernel_rfl) (by kernel_rfl) (by simp [Act.put]) hS.out ?_
        apply Exists.intro
        refine And.intro (fun w' hS' => ?_) ?_
        · have hc := hS'.1.cell 2 _ rfl
          clear hS'
          go_wp2
          first
            | exact ⟨trivial, rfl⟩
            | exact rfl
        refine pl_take (i := 7) 51 rfl rfl rfl (by kernel_rfl) (by kernel_rfl) (by kernel_rfl) (by simp [Act.put]) hS.out ?_
        apply Exists.intro
        refine And.intro (fun w' hS' => ?_) ?_
        · clear hS'
          go_wp2
          first
            | exact ⟨trivial, rfl⟩
            | exact rfl
        refine pl_take (i := 8) 52 rfl rfl rfl (by kernel_rfl) (by kernel_rfl) (by kernel_rfl) (by simp [Act.put]) hS.out ?_
        apply Exists.intro
        refine And.intro (fun w' hS' => ?_) ?_
        · clear hS'
          go_wp2
          first
            | exact ⟨trivial, rfl⟩
            | exact rfl
        refine pl_take (i := 13) 57 rfl rfl rfl (by kernel_rfl) (by kernel_rfl) (by kernel_rfl) (by simp [Act.put]) hS.out ?_
        apply Exists.intro
        refine And.intro (fun w' hS' => ?_) ?_
        · clear hS'
          go_wp2
          first
            | exact ⟨trivial, rfl⟩
            | exact rfl
        refine pl_take (i := 14) 58 rfl rfl rfl (by kernel_rfl) (by kernel_rfl) (by kernel_rfl) (by simp [Act.put]) hS.out ?_
        apply Exists.intro
        refine And.intro (fun w' hS' => ?_) ?_
        · clear hS'
          go_wp2
          first
            | exact ⟨trivial, rfl⟩
            | exact rfl
        refine pl_take (i := 15) 59 rfl rfl rfl (by kernel_rfl) (by kernel_rfl) (by kernel_rfl) (by simp [Act.put]) hS.out ?_
        apply Exists.intro
        refine And.intro (fun w' hS' => ?_) ?_
        · clear hS'
          go_wp2
          first
            | exact ⟨trivial, rfl⟩
            | exact rfl
        refine pl_take (i := 16) 60 rfl rfl rfl (by kernel_rfl) (by kernel_rfl) (by kernel_rfl) (by simp [Act.put]) hS.out ?_
        apply Exists.intro
        refine And.intro (fun w' hS' => ?_) ?_
        · have hc := hS'.2
          clear hS'
          go_wp2
          first
            | exact ⟨trivial, rfl⟩
            | exact rfl
        have M2 := Lib.hid (modulo_nat wd tear m HT.out.1 HT.out.2 (by omega))
        rw [← HQ2.out] at M2
        refine pl_heavy (i := 9) rfl (by kernel_rfl) ?_
        go_wp2_with fail
        refine M2.out.mono ?_
        rintro e wz ⟨rfl, rfl⟩
        go_wp2
        refine And.intro hS.out ?_
        refine pl_take (i := 10) 54 rfl rfl rfl (by kernel_rfl) (by kernel_rfl) (by kernel_rfl) (by simp [Act.put]) hS.out ?_
        apply Exists.intro
        refine And.intro (fun w' hS' => ?_) ?_
        · clear hS'
          go_wp2
          first
            | exact ⟨trivial, rfl⟩
            | exact rfl
        have RT : Hid (RdU wd (.slice (some a1) q c1) (b.take q)) := Lib.hid ((RB.out.fresh BD.out).take (by rw [← HQ.out.2]; exact HQ.out.1))
        refine pl_heavy (i := 11) rfl (by kernel_rfl) ?_
        go_wp2_with fail
        have RL : (b.take q).length = q := by have := HQ.out; rw [List.length_take]; omega
        refine (adds_lit wd ib HI.out (.slice (some a1) q c1) (b.take q) RT.out).mono ?_
        rintro e w5 ⟨x1, x2, rfl, sf5, b5⟩
        have B5 : Hid (Below w2.heap.size w2 w5) := Lib.hid (BD.out.tr b5)
        have SF5 := Lib.hid sf5
        have h1 := And.intro (hS.out.1.fresh b5) ((DQ.out.fresh B5.out).cd.cell 0 _ rfl)
        clear hS sf5 b5 RT
        have hS : Hid (CB w5 78 w2.heap.size (stV F g1 g2 (ib : Int) (.slice (some a1) m c1)) ∧ w5.cell? ⟨D, 0, none⟩ = some (.pointer (some ⟨S, 0, none⟩))) := Lib.hid h1
        clear h1
        go_wp2
        refine And.intro hS.out ?_
        refine pl_take (i := 12) 56 rfl rfl rfl (by kernel_rfl) (by kernel_rfl) (by kernel_rfl) (by simp [Act.put]) hS.out ?_
        apply Exists.intro
        refine And.intro (fun w' hS' => ?_) ?_
        · have hfl := fun u : World => run_field0 66 #[] #[.pointer (some ⟨x1, 0, none⟩), .pointer (some ⟨x2, 0, none⟩)] (ib : Int) (some a1) q c1 u
          clear hS'
          go_wp2
          first
            | exact ⟨trivial, rfl⟩
            | exact rfl
        have CN := Lib.hid (stf_set w5 D S vs2 ns2 _ css2 k2 _ x1 x2 (.put ib (b.take q)) (DQ.out.fresh B5.out) SF5.out (by
          rw [app_put]
          refine mem_set_le (fun l hl => by have := SL.out.2 l hl; omega) ?_
          have hg : (k2.set.getD ib []).length ≤ 16777216 := by
            rw [List.getD_eq_getElem?_getD, List.getElem?_eq_getElem (by rw [SL.out.1]; exact HI.out)]
            exact SL.out.2 _ (List.getElem_mem _)
          have h1 := HQ.out.1
          rw [List.length_append, RL]
          omega) (AV.out.mono (Nat.le_trans MS.out.1.size B5.out.size)))
        refine pl_heavy (i := 17) rfl (by kernel_rfl) ?_
        go_wp2_with fail
        refine CN.out.mono ?_
        rintro e w6 ⟨rfl, vs6, d6, g6⟩
        have B6 : Hid (Mv D S (.slice (some ⟨g0, o0, none⟩) L2 c2) w2 w6) := Lib.hid ((Mv.fresh B5.out).tr' (Mv.gS g6))
        have h1 := And.intro (hS.out.1.kept (g6.block _ hS.out.1.lt (fun e => by
          simp only [Option.some.injEq] at e
          exact hS.out.1.tag.ne (DQ.out.fresh B5.out).cs.tag (by decide) e))) (d6.cd.cell 0 _ rfl)
        clear hS g6 CN
        have hS : Hid (CB w6 78 w2.heap.size (stV F g1 g2 (ib : Int) (.slice (some a1) m c1)) ∧ w6.cell? ⟨D, 0, none⟩ = some (.pointer (some ⟨S, 0, none⟩))) := Lib.hid h1
        have D6 := Lib.hid d6
        clear h1 d6
        go_wp2
        refine And.intro hS.out ?_
        refine pl_done (by kernel_rfl) ?_
        have MQ : Hid (Mv D S (.slice av L cv) w w6) := Lib.hid (MS.out.1.tr B6.out MS.out.2)
        have GQ : Hid (Grew w (.slice av L cv) (.slice (some ⟨g0, o0, none⟩) L2 c2)) := Lib.hid MS.out.2
        obtain ⟨k6, hk6⟩ : ∃ k6, k6 = ({ k2 with set := app k2.set (.put ib (b.take q)) } : Dk) := ⟨_, rfl⟩
        have DR : Hid (DkV w6 D S vs6 ns2 (.slice (some ⟨g0, o0, none⟩) L2 c2) css2 k6) := Lib.hid (by rw [hk6]; exact D6.out)
        have CK : Hid (crashK k keep tear = ⟨k6.set, k6.set, [], 0, false, false⟩) := Lib.hid (by rw [CKS.out, hk6])
        have SL6 : Hid (k6.set.length = 16 ∧ ∀ l ∈ k6.set, l.length ≤ 33554432) := Lib.hid (by
          rw [hk6]
          refine ⟨by simp only; rw [app_length]; exact SL.out.1, ?_⟩
          simp only
          rw [app_put]
          refine mem_set_le (fun l hl => by have := SL.out.2 l hl; omega) ?_
          have hg : (k2.set.getD ib []).length ≤ 16777216 := by
            rw [List.getD_eq_getElem?_getD, List.getElem?_eq_getElem (by rw [SL.out.1]; exact HI.out)]
            exact SL.out.2 _ (List.getElem_mem _)
          have h1 := HQ.out.1
          rw [List.length_append, RL]
          omega)
        clear hk6 D6 CKS RL hS
        have DQ := Lib.hid DR.out
        have SL := Lib.hid SL6.out
        go_wp2_with (with_reducible refine stopStore 62 ?_)
        refine Stop.go ?_
        refine wpList_store_part rfl 62 (.tmp 65) (.tmp 63) rfl D 1 65 rfl _ noLogs rfl DQ.out.cd (by rw [dkC_length DQ.out.ln.1]; decide) noLogs_one infoLogs ?_
        intro w7 k7 o7
        rw [dkC_setNows DQ.out.ln.1] at k7
        have D7 : Hid (DkV w7 D S vs6 noLogs (.slice (some ⟨g0, o0, none⟩) L2 c2) css2 { k6 with now := nowJ k6.set 0 }) := Lib.hid (DQ.out.nows k7 o7 (by rw [nowJ_zero]; exact Lg.none _))
        have M7 : Hid (Mv D S (.slice (some ⟨g0, o0, none⟩) L2 c2) w6 w7) := Lib.hid (Mv.disk o7)
        clear k7 o7
        go_wp2_with fail
        go_loopw [66] (fun v66 wr => Mv D S (.slice (some ⟨g0, o0, none⟩) L2 c2) w7 wr ∧ ∃ j : Nat, j ≤ 16 ∧ v66 = .int .i64 (j : Int) ∧ ∃ ns', DkV wr D S vs6 ns' (.slice (some ⟨g0, o0, none⟩) L2 c2) css2 { k6 with now := nowJ k6.set j })
          (fun v _ => 16 - (RowKit.intOf v).toNat)
        case atStart => exact ⟨Mv.refl _ _ _ _, 0, Nat.zero_le _, rfl, noLogs, D7.out⟩
        case round =>
          obtain ⟨hm, j, hj, rfl, ns1, hd⟩ := hrel
          have HM := Lib.hid hm
          have HR := Lib.hid hd
          clear hm
          by_cases hjn : j < 16
          · have ij : (j : Int) < 16 := by omega
            obtain ⟨u, b, hu, hb, hrd, hg⟩ := hd.lv.get hjn
            obtain ⟨a1, c1, rfl⟩ := hrd.slice
            have hcs := hd.cs.cell j _ hu
            have hc0 := hd.cd.cell 0 _ rfl
            have BD : Hid (Below wr.heap.size wr wr.drew) := Lib.hid ((Below.refl _ wr).drew)
            have hbl : b.length ≤ 100000000 := by have := SL.out.2 b (List.mem_of_getElem? hb); omega
            have CL := Lib.hid (clone_any wr.drew _ b (hrd.fresh BD.out) hbl)
            obtain ⟨m1, hm1⟩ : ∃ m1, m1 = b.length := ⟨_, rfl⟩
            have HB := Lib.hid (And.intro hb hm1)
            rw [← hm1] at hcs CL
            have hS : Hid (wr.drew.cell? ⟨D, 0, none⟩ = some (.pointer (some ⟨S, 0, none⟩)) ∧ wr.drew.cell? ⟨S, j, none⟩ = some (.slice a1 m1 c1)) := Lib.hid ⟨hc0, hcs⟩
            have HJ := Lib.hid (And.intro hj hjn)
            clear hu hb hrd hg hcs hc0 hbl hm1 hj hjn hd
            go_wp2_with fail
            refine pf_start 15 rfl (fun w' => w'.cell? ⟨D, 0, none⟩ = some (.pointer (some ⟨S, 0, none⟩)) ∧ w'.cell? ⟨S, j, none⟩ = some (.slice a1 m1 c1)) (fun i => i == 14) (by kernel_rfl) ?_
            refine pf_take (i := 0) 69 rfl rfl rfl (by kernel_rfl) (by kernel_rfl) (by kernel_rfl) (by kernel_rfl) (by kernel_rfl) (by simp [Act.put]) hS.out ?_
            apply Exists.intro
            refine And.intro (fun w' hS' => ?_) ?_
            · clear hS'
              go_wp2
              first
                | exact ⟨trivial, rfl⟩
                | exact rfl
            refine pf_take (i := 1) 70 rfl rfl rfl (by kernel_rfl) (by kernel_rfl) (by kernel_rfl) (by kernel_rfl) (by kernel_rfl) (by simp [Act.put]) hS.out ?_
            apply Exists.intro
            refine And.intro (fun w' hS' => ?_) ?_
            · clear hS'
              go_wp2
              first
                | exact ⟨trivial, rfl⟩
                | exact rfl
            refine pf_take (i := 2) 71 rfl rfl rfl (by kernel_rfl) (by kernel_rfl) (by kernel_rfl) (by kernel_rfl) (by kernel_rfl) (by simp [Act.put]) hS.out ?_
            apply Exists.intro
            refine And.intro (fun w' hS' => ?_) ?_
            · clear hS'
              go_wp2
              first
                | exact ⟨trivial, rfl⟩
                | exact rfl
            refine pf_take (i := 3) 72 rfl rfl rfl (by kernel_rfl) (by kernel_rfl) (by kernel_rfl) (by kernel_rfl) (by kernel_rfl) (by simp [Act.put]) hS.out ?_
            apply Exists.intro
            refine And.intro (fun w' hS' => ?_) ?_
            · clear hS'
              go_wp2
              first
                | exact ⟨trivial, rfl⟩
                | exact rfl
            refine pf_take (i := 4) 73 rfl rfl rfl (by kernel_rfl) (by kernel_rfl) (by kernel_rfl) (by kernel_rfl) (by kernel_rfl) (by simp [Act.put]) hS.out ?_
            apply Exists.intro
            refine And.intro (fun w' hS' => ?_) ?_
            · clear hS'
              go_wp2
              first
                | exact ⟨trivial, rfl⟩
                | exact rfl
            refine pf_take (i := 5) 74 rfl rfl rfl (by kernel_rfl) (by kernel_rfl) (by kernel_rfl) (by kernel_rfl) (by kernel_rfl) (by simp [Act.put]) hS.out ?_
            apply Exists.intro
            refine And.intro (fun w' hS' => ?_) ?_
            · have hc := hS'.1
              clear hS'
              go_wp2
              first
                | exact ⟨trivial, rfl⟩
                | exact rfl
            refine pf_take (i := 6) 75 rfl rfl rfl (by kernel_rfl) (by kernel_rfl) (by kernel_rfl) (by kernel_rfl) (by kernel_rfl) (by simp [Act.put]) hS.out ?_
            apply Exists.intro
            refine And.intro (fun w' hS' => ?_) ?_
            · clear hS'
              go_wp2
              first
                | exact ⟨trivial, rfl⟩
                | exact rfl
            refine pf_take (i := 7) 76 rfl rfl rfl (by kernel_rfl) (by kernel_rfl) (by kernel_rfl) (by kernel_rfl) (by kernel_rfl) (by simp [Act.put]) hS.out ?_
            apply Exists.intro
            refine And.intro (fun w' hS' => ?_) ?_
            · clear hS'
              go_wp2
              first
                | exact ⟨trivial, rfl⟩
                | exact rfl
            refine pf_take (i := 8) 77 rfl rfl rfl (by kernel_rfl) (by kernel_rfl) (by kernel_rfl) (by kernel_rfl) (by kernel_rfl) (by simp [Act.put]) hS.out ?_
            apply Exists.intro
            refine And.intro (fun w' hS' => ?_) ?_
            · clear hS'
              go_wp2
              first
                | exact ⟨trivial, rfl⟩
                | exact rfl
            refine pf_take (i := 9) 78 rfl rfl rfl (by kernel_rfl) (by kernel_rfl) (by kernel_rfl) (by kernel_rfl) (by kernel_rfl) (by simp [Act.put]) hS.out ?_
            apply Exists.intro
            refine And.intro (fun w' hS' => ?_) ?_
            · have hc := hS'.2
              clear hS'
              go_wp2
              first
                | exact ⟨trivial, rfl⟩
                | exact rfl
            refine pf_free (i := 11) 80 rfl rfl rfl (by kernel_rfl) (by kernel_rfl) (by kernel_rfl) rfl (by simp [Act.put]) (fun _ => hS.out) ?_
            apply Exists.intro
            refine And.intro (fun w' => ?_) ?_
            · go_wp2
              first
                | exact ⟨trivial, rfl⟩
                | exact rfl
            refine pf_free (i := 12) 81 rfl rfl rfl (by kernel_rfl) (by kernel_rfl) (by kernel_rfl) rfl (by simp [Act.put]) (fun _ => hS.out) ?_
            apply Exists.intro
            refine And.intro (fun w' => ?_) ?_
            · go_wp2
              first
                | exact ⟨trivial, rfl⟩
                | exact rfl
            refine pf_heavy (i := 10) rfl (by kernel_rfl) ?_
            go_wp2_with fail
            refine CL.out.mono ?_
            rintro e w8 ⟨v8, rfl, o8, b8⟩
            have B8 : Hid (Below wr.heap.size wr w8) := Lib.hid (BD.out.tr b8)
            have D8 := Lib.hid (HR.out.fresh B8.out)
            rw [HB.out.2] at o8
            have R8 := Lib.hid (RdU.of_own o8 (AV.out.mono (Nat.le_trans MQ.out.size (Nat.le_trans M7.out.size HM.out.size))))
            have h1 := D8.out.cd.cell 0 _ rfl
            have h2 : w8.cell? ⟨S, j, none⟩ = some (.slice a1 m1 c1) := by
              have := hS.out.2
              have hs := HR.out.cs
              unfold CB at hs
              have h8 := D8.out.cs
              unfold CB at h8
              simp only [World.cell?] at this ⊢
              rw [h8]
              have hs' : wr.drew.heap[S]? = _ := hs
              rw [hs'] at this
              exact this
            obtain ⟨a8, c8, rfl⟩ := R8.out.slice
            clear hS o8 b8 CL
            have hS : Hid (w8.cell? ⟨D, 0, none⟩ = some (.pointer (some ⟨S, 0, none⟩)) ∧ w8.cell? ⟨S, j, none⟩ = some (.slice a1 m1 c1)) := Lib.hid ⟨h1, h2⟩
            clear h1 h2
            go_wp2
            refine And.intro hS.out ?_
            refine pf_take (i := 13) 82 rfl rfl rfl (by kernel_rfl) (by kernel_rfl) (by kernel_rfl) (by kernel_rfl) (by kernel_rfl) (by simp [Act.put]) hS.out ?_
            apply Exists.intro
            refine And.intro (fun w' hS' => ?_) ?_
            · clear hS'
              go_wp2
              first
                | exact ⟨trivial, rfl⟩
                | exact rfl
            refine pf_last (i := 14) rfl (by kernel_rfl) (by kernel_rfl) ?_
            refine wpList_store_cell rfl 29 (.tmp 82) (.tmp 79) rfl D (1 + j) 65 rfl _ (.slice a8 b.length c8) rfl rfl D8.out.cd (by rw [dkC_length D8.out.ln.1]; have := HJ.out.2; omega) infoSl8 ?_
            intro w9 k9 o9
            rw [Nat.add_comm 1 j, dkC_setNow D8.out.ln.1 HJ.out.2] at k9
            have M9 : Hid (Mv D S (.slice (some ⟨g0, o0, none⟩) L2 c2) wr w9) := Lib.hid ((Mv.fresh B8.out).tr' (Mv.disk o9))
            have D9 : Hid (DkV w9 D S vs6 (ns1.set j (.slice a8 b.length c8)) (.slice (some ⟨g0, o0, none⟩) L2 c2) css2 { k6 with now := nowJ k6.set (j + 1) }) := Lib.hid (D8.out.nows k9 o9 (by
              rw [nowJ_succ SL.out.1 HJ.out.2 HB.out.1]
              have kt : Kt [65] w8 w9 := Kt.only o9 D8.out.cd.tag (by simp)
              exact (D8.out.ln.kt kt (by decide)).set (R8.out.kt kt (by decide))))
            clear k9 o9
            go_wp2
            refine pf_done (by kernel_rfl) ?_
            go_wp2
            go_roundw
            case rel => exact ⟨HM.out.tr' M9.out, j + 1, HJ.out.2, by go_num, _, D9.out⟩
            case measure =>
              have := HJ.out.2
              simp only [RowKit.intOf]
              omega
          · have ij : ¬ ((j : Int) < 16) := by omega
            obtain rfl : j = 16 := by omega
            clear hd hj hjn
            go_wp2_with (with_reducible refine stopStore 63 ?_)
            refine Stop.go ?_
            refine wpList_store_cell rfl 63 (.tmp 89) (.const (.slice none 0 0)) rfl D 17 65 rfl _ (.slice none 0 0) rfl rfl HR.out.cd (by rw [dkC_length HR.out.ln.1]; omega) infoSlS ?_
            intro x1 k1 o1
            rw [dkC_setWait HR.out.ln.1] at k1
            have K1 := Lib.hid k1
            have O1 := Lib.hid o1
            clear k1 o1
            go_wp2_with (with_reducible refine stopStore 4 ?_)
            refine Stop.go ?_
            refine wpList_store_cell rfl 4 (.tmp 91) (.const (.bool false)) rfl D 19 65 rfl _ (.bool false) rfl rfl K1.out (by rw [dkC_length HR.out.ln.1]; omega) infoBool ?_
            intro x2 k2 o2
            rw [dkC_setArmed HR.out.ln.1] at k2
            have K2 := Lib.hid k2
            have O2 := Lib.hid o2
            clear k2 o2
            go_wp2_with (with_reducible refine stopStore 4 ?_)
            refine Stop.go ?_
            refine wpList_store_cell rfl 4 (.tmp 93) (.const (.bool false)) rfl D 20 65 rfl _ (.bool false) rfl rfl K2.out (by rw [dkC_length HR.out.ln.1]; omega) infoBool ?_
            intro x3 k3 o3
            rw [dkC_setDead HR.out.ln.1] at k3
            have K3 := Lib.hid k3
            have O3 := Lib.hid o3
            clear k3 o3
            go_wp2_with (with_reducible refine stopStore 3 ?_)
            refine Stop.go ?_
            refine wpList_store_cell rfl 3 (.tmp 95) (.const (.int .i64 0)) rfl D 18 65 rfl _ (.int .i64 0) rfl rfl K3.out (by rw [dkC_length HR.out.ln.1]; omega) infoInt ?_
            intro x4 k4 o4
            rw [dkC_setFuse HR.out.ln.1] at k4
            have K4 := Lib.hid k4
            have O4 := Lib.hid o4
            clear k4 o4
            go_wp2
            go_ret
            have kt : Kt [65] wr x4 := (((Kt.only O1.out HR.out.cd.tag (by simp)).tr (Kt.only O2.out K1.out.tag (by simp))).tr (Kt.only O3.out K2.out.tag (by simp))).tr (Kt.only O4.out K3.out.tag (by simp))
            have DF := HR.out.reset K4.out kt
            rw [show ({ k6 with now := nowJ k6.set 16 } : Dk).set = k6.set from rfl, show ({ k6 with now := nowJ k6.set 16 } : Dk).now = nowJ k6.set 16 from rfl, nowJ_full SL.out.1] at DF
            refine ⟨rfl, .slice none 0 0, ⟨_, _, _, by rw [CK.out]; exact DF⟩, ?_, fun g hg => by cases hg⟩
            exact MQ.out.tr (((((M7.out.tr' HM.out).tr' (Mv.disk O1.out)).tr' (Mv.disk O2.out)).tr' (Mv.disk O3.out)).tr' (Mv.disk O4.out)) GQ.out

end Go.Proofs.Ytbbbgpdhdlknjaa
