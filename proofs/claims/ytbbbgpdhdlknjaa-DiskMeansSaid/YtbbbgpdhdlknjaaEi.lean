/- Disks: what was synced lasts: the law's walk. -/
import Derived.Test.YtbbbgpdhdlknjaaEg
import Derived.Test.YtbbbgpdhdlknjaaEh
import Derived.Test.YtbbbgpdhdlknjaaDx
namespace Go.Proofs.Ytbbbgpdhdlknjaa
set_option linter.unusedVariables false
set_option linter.unusedSimpArgs false
open Go.RowKit Go.Lib

theorem near_ok {s : List Bs} {rest : List St} {tear : Int} (hs : s.length = 16) : NearOK (tornS s rest tear) s rest := by
  intro i hi
  cases rest with
  | nil => exact ⟨[], by simp [tornS], .inl rfl⟩
  | cons x r =>
    cases x with
    | cut q1 q2 => exact ⟨[], by simp [tornS], .inl rfl⟩
    | put q b =>
      simp only [tornS, app_put]
      by_cases hq : q = i
      · subst hq
        refine ⟨b.take (modN tear b.length), ?_, .inr ⟨b, r, rfl, ?_, ?_⟩⟩
        · rw [List.getD_eq_getElem?_getD, List.getElem?_set_self (by rw [hs]; exact hi)]
          rfl
        · rw [List.length_take]; omega
        · rw [List.length_take, List.take_eq_take_iff]
          omega
      · refine ⟨[], ?_, .inl rfl⟩
        rw [List.getD_eq_getElem?_getD, List.getElem?_set_ne hq, List.getD_eq_getElem?_getD, List.append_nil]

theorem Own.kt {B : Nat} {w0 w w' : World} {D S : Nat} {wv : Value} {k : Dk} {E : List TypeId} (h : Own B w0 w D S wv k) (hk : Kt E w w') (hb : Below B w0 w') (h1 : 5 ∉ E) (h2 : 3 ∉ E) (h3 : 29 ∉ E) (h4 : 65 ∉ E) (h5 : 62 ∉ E) (h6 : 78 ∉ E) : Own B w0 w' D S wv k :=
  ⟨h.1.kt hk h1 h2 h3 h4 h5 h6, hb, h.2.2⟩

set_option maxRecDepth 100000 in
set_option maxHeartbeats 16000000 in
theorem means_any (w : World) (v : Value) (l : List Sp) (keep tear : Int) (h : Sps w v l) (hin : ∀ t ∈ l, InB t) (h1 : -9223372036854775808 ≤ keep) (h2 : keep ≤ 9223372036854775807) (h3 : -9223372036854775808 ≤ tear) (h4 : tear ≤ 9223372036854775807) :
    Calls Try.prog 3 #[v, .int .i64 keep, .int .i64 tear] w fun e w' => e = .returned (.bool true) ∧ Below w.heap.size w w' := by
  obtain ⟨a0, c0, rfl⟩ := h.slice
  obtain ⟨N, hN⟩ : ∃ N, N = l.length := ⟨_, rfl⟩
  have HSP := Lib.hid h
  obtain ⟨us, hlu, hru, heu⟩ := h
  rw [← hN] at hlu hru
  have bN' : (N : Int) ≤ 9223372036854775807 := rd_small hru
  have HI := Lib.hid hru
  have HE := Lib.hid heu
  have HL := Lib.hid (And.intro hN hlu)
  have HIN := Lib.hid hin
  have HT := Lib.hid (And.intro h1 (And.intro h2 (And.intro h3 h4)))
  rw [← hN]
  rw [← hN] at HSP
  clear hN hlu hru heu hin h1 h2 h3 h4
  go_enter Try.func3, Try.ntmps3
  go_wp2_with fail
  refine (known_any w).mono ?_
  rintro e w1 ⟨rfl, b1⟩
  have B1 := Lib.hid b1
  clear b1
  go_wp2_with fail
  refine (much_any w1 _ l (HSP.out.fresh B1.out)).mono ?_
  rintro e w2 ⟨⟨B, rfl, hB⟩, b2⟩
  have B2 := Lib.hid (B1.out.tr b2)
  have HBB := Lib.hid hB
  clear hB b2 B1
  cases B
  case true =>
    go_wp2
    go_ret
    exact ⟨rfl, B2.out⟩
  case false =>
    have HF : Hid (N ≤ 60 ∧ ∀ t ∈ l, t.b.length ≤ 20000) := Lib.hid (by have := HBB.out (by trivial); rw [HL.out.1]; exact this)
    clear HBB
    go_wp2_with fail
    refine (new_any w2).mono ?_
    rintro e w3 ⟨rfl, d3, b3, s3⟩
    obtain ⟨D, hD⟩ : ∃ D, D = w2.heap.size + 1 := ⟨_, rfl⟩
    obtain ⟨S, hS⟩ : ∃ S, S = w2.heap.size := ⟨_, rfl⟩
    rw [← hD, ← hS] at d3
    rw [← hD]
    have OD3 : Hid (Own w.heap.size w w3 D S (.slice none 0 0) newK) := Lib.hid ⟨d3, B2.out.tr b3, by have := B2.out.size; omega, by have := B2.out.size; omega, fun g hg => (by cases hg), Nat.le_refl _⟩
    clear hD hS d3 b3 s3
    go_wp2_with fail
    refine (rnew_any w3).mono ?_
    rintro e w4 ⟨rfl, r4, b4⟩
    obtain ⟨G, hG⟩ : ∃ G, G = w3.heap.size := ⟨_, rfl⟩
    rw [← hG] at r4
    rw [← hG]
    have OD4 := Lib.hid (OD3.out.fresh b4)
    have R4 := Lib.hid r4
    have G4 : Hid (w.heap.size ≤ G) := Lib.hid (by have := OD3.out.2.1.size; omega)
    clear hG r4 b4 OD3
    go_wp2
    go_loopw [9] (fun v9 wr => ∃ (i : Nat) (wv pv : Value) (k : Dk), i ≤ N ∧ v9 = .int .i64 (i : Int) ∧ Own w.heap.size w wr D S wv k ∧ RK wr G pv k ∧ (∀ g, pv.ownBlock = some g → w.heap.size ≤ g) ∧ Ok k ∧ k.wait.length ≤ i)
      (fun v _ => N - (RowKit.intOf v).toNat)
    case atStart => exact ⟨0, _, _, newK, Nat.zero_le _, rfl, OD4.out, R4.out, fun g hg => (by cases hg), newK_ok, Nat.le_refl _⟩
    case round =>
      obtain ⟨i, wv, pv, k, hi, rfl, od, rk, pg, ok, hwl⟩ := hrel
      have OD := Lib.hid od
      have RR := Lib.hid rk
      have PG := Lib.hid pg
      have OKK := Lib.hid (And.intro ok hwl)
      clear od rk pg ok hwl OD4 R4
      by_cases hlt : i < N
      · have ik : (i : Int) < (N : Int) := by omega
        obtain ⟨t, ht⟩ : ∃ z, l[i]? = some z := ⟨_, List.getElem?_eq_getElem (by rw [← HL.out.1]; exact hlt)⟩
        obtain ⟨ut, hu⟩ : ∃ z, us[i]? = some z := ⟨_, List.getElem?_eq_getElem (by rw [HL.out.2]; exact hlt)⟩
        obtain ⟨ad, c, he⟩ := rd_some HI.out (by omega)
        simp only [Value.slice.injEq, true_and] at he
        obtain ⟨rfl, rfl⟩ := he
        have hz : (l.zip us)[i]? = some (t, ut) := by rw [List.getElem?_zip_eq_some]; exact ⟨ht, hu⟩
        have hrx := HE.out i t ut ht hu
        obtain ⟨a1, c1, rfl⟩ := hrx.slice
        obtain ⟨m, hm⟩ : ∃ m, m = t.b.length := ⟨_, rfl⟩
        have HTT : Hid (InB t ∧ t.b.length ≤ 20000) := Lib.hid ⟨HIN.out t (List.mem_of_getElem? ht), HF.out.2 t (List.mem_of_getElem? ht)⟩
        rw [← hm] at hz hrx
        have HZ := Lib.hid hz
        have HRX := Lib.hid hrx
        have HM := Lib.hid (And.intro hm hlt)
        have hkind : wr.cell? (ad.add (i * 6)) = some (.int .i64 t.kind) := by
          have := (HI.out.fresh OD.out.2.1).at (fun z _ => rfl) hz 0 _ rfl
          rwa [add_zero_addr] at this
        clear ht hu hz hrx hm hlt hi
        by_cases hk4 : 4 < t.kind
        · have k4 : (decide (4 < t.kind)) = true := decide_eq_true hk4
          go_wp2
          go_ret
          exact ⟨rfl, OD.out.2.1⟩
        · have k4 : (decide (4 < t.kind)) = false := decide_eq_false hk4
          have HK4 : Hid (t.kind ≤ 4) := Lib.hid (by omega)
          clear hk4
          go_wp2_with (with_reducible refine stopAt 36 ?_)
          refine Stop.go ?_
          refine wpList_load_agg rfl 31 (.tmp 35) rfl (ad.add (i * 6)) rfl [.int .i64 t.kind, .int .i64 t.log, .int .i64 t.n, .int .i64 t.m, .int .u8 (t.x.toNat : Int), .slice a1 m c1] _ ((HI.out.fresh OD.out.2.1).at (fun z _ => rfl) HZ.out) Try.underlying31 rfl (by exact infoSp) ?_
          go_wp2_with fail
          refine (do_any wr D S wv k t (.slice a1 m c1) OD.out.1 OKK.out.1 (by have h1 := OKK.out.2; have h2 := HM.out.2; have h3 := HF.out.1; omega) (by have := HRX.out.fresh OD.out.2.1; rw [HM.out.1] at this ⊢; exact this) (by have := HTT.out.2; omega) HTT.out.1.1.1 HTT.out.1.1.2 HTT.out.1.2.1 HTT.out.1.2.2 (noAv _)).mono ?_
          rintro e w5 ⟨rfl, wv5, d5, m5, g5⟩
          have OD5 := Lib.hid (OD.out.step d5 m5 g5)
          have RR5 := Lib.hid (RkAt.kt RR.out (m5.kt OD.out.1) (by decide) (by decide) (by decide))
          have OK5 : Hid (Ok (doK k t).2 ∧ (doK k t).2.wait.length ≤ i + 1) := Lib.hid ⟨OKK.out.1.do t OD.out.1.idx HTT.out.1.1.2, by have h1 := doK_wait k t; have h2 := OKK.out.2; omega⟩
          clear d5 m5 g5 OD RR hkind k4
          go_wp2_with (with_reducible refine stopAt 42 ?_)
          refine Stop.go ?_
          refine wpList_load_agg rfl 31 (.tmp 41) rfl (ad.add (i * 6)) rfl [.int .i64 t.kind, .int .i64 t.log, .int .i64 t.n, .int .i64 t.m, .int .u8 (t.x.toNat : Int), .slice a1 m c1] _ ((HI.out.fresh OD5.out.2.1).at (fun z _ => rfl) HZ.out) Try.underlying31 rfl (by exact infoSp) ?_
          go_wp2_with fail
          refine (rdo_any w5 G pv k t (.slice a1 m c1) RR5.out OKK.out.1 (by have h1 := OKK.out.2; have h2 := HM.out.2; have h3 := HF.out.1; omega) (by have := HRX.out.fresh OD5.out.2.1; rw [HM.out.1] at this ⊢; exact this) HTT.out.2 HK4.out).mono ?_
          rintro e w6 ⟨⟨rr, rfl⟩, pv6, r6, m6, g6⟩
          have b6 : Below w.heap.size w w6 := OD5.out.2.1.trans (m6.below G4.out G4.out PG.out OD5.out.2.1.size)
          have OD6 := Lib.hid (OD5.out.kt (m6.ktR RR5.out) b6 (by decide) (by decide) (by decide) (by decide) (by decide) (by decide))
          have RR6 := Lib.hid r6
          have PG6 : Hid (∀ g, pv6.ownBlock = some g → w.heap.size ≤ g) := Lib.hid (fun g hg => (g6 g hg).elim (PG.out g) (fun h => Nat.le_trans OD5.out.2.1.size h))
          clear r6 m6 g6 b6 OD5 RR5
          go_wp2
          go_roundw
          case rel => exact ⟨i + 1, wv5, pv6, _, HM.out.2, by go_num, OD6.out, RR6.out, PG6.out, OK5.out.1, OK5.out.2⟩
          case measure => have := HM.out.2; simp only [RowKit.intOf]; omega
      · have ik : ¬ ((i : Int) < (N : Int)) := by omega
        obtain rfl : i = N := by omega
        clear hi hlt
        have OC : Hid (Ok (crashK k keep tear)) := Lib.hid (OKK.out.1.crash keep tear OD.out.1.idx)
        go_wp2_with fail
        refine (crash_any wr D S wv k OD.out.1 OKK.out.1 (by have h1 := OKK.out.2; have h2 := HF.out.1; omega) keep tear HT.out.1 HT.out.2.1 HT.out.2.2.1 HT.out.2.2.2 (noAv _)).mono ?_
        rintro e w5 ⟨rfl, wv5, d5, m5, g5⟩
        have OD5 := Lib.hid (OD.out.step d5 m5 g5)
        have RR5 := Lib.hid (RkAt.kt RR.out (m5.kt OD.out.1) (by decide) (by decide) (by decide))
        have KI := Lib.hid OD.out.1.idx
        clear d5 m5 g5 OD RR
        go_wp2_with fail
        refine (num_any w5 0).mono ?_
        rintro e w5 ⟨rfl, rfl⟩
        go_wp2_with fail
        refine (dead_any w5 D S wv5 (crashK k keep tear) OD5.out.1).mono ?_
        rintro e w5 ⟨rfl, rfl⟩
        rw [show (crashK k keep tear).dead = false from rfl]
        go_wp2_with fail
        refine (waiting_any w5 D S wv5 (crashK k keep tear) OD5.out.1).mono ?_
        rintro e w5 ⟨rfl, rfl⟩
        rw [show (((crashK k keep tear).wait.length : Nat) : Int) = 0 from rfl]
        obtain ⟨ls, css, hrv⟩ := RR5.out
        obtain ⟨pa, pc, rfl⟩ := hrv.wt.slice
        obtain ⟨L, hL⟩ : ∃ L, L = k.wait.length := ⟨_, rfl⟩
        rw [← hL] at hrv
        have RV := Lib.hid hrv
        have HLL := Lib.hid hL
        obtain ⟨n, hn⟩ : ∃ n, n = modN keep L := ⟨_, rfl⟩
        have HNN : Hid (n ≤ L) := Lib.hid (by rw [hn]; exact modN_le _ _)
        have L60 : (L : Int) ≤ 60 := by have h1 := OKK.out.2; have h2 := HF.out.1; omega
        obtain ⟨KD, hKD⟩ : ∃ KD, KD = crashK k keep tear := ⟨_, rfl⟩
        have NO : Hid (NearOK KD.now ((k.wait.take n).foldl app k.set) (k.wait.drop n)) := Lib.hid (by
          rw [hKD]
          simp only [crashK]
          rw [← hL, ← hn]
          exact near_ok (OKK.out.1.settle n).sl)
        have KDL : Hid (∀ y ∈ KD.now, y.length ≤ 33554432) := Lib.hid (fun y hy => by rw [hKD] at hy; have := OC.out.nl y hy; omega)
        rw [← hKD] at OD5
        have bpc : (L : Int) ≤ (pc : Int) := by
          rcases RV.out.wt.rd.2 with ⟨he, _⟩ | ⟨_, _, he, hnc, _⟩
          · simp only [Value.slice.injEq] at he; omega
          · simp only [Value.slice.injEq] at he; omega
        clear hrv hL hn hKD RR5 PG
        go_wp2
        go_loopw [10] (fun v10 wr => Below w5.heap.size w5 wr ∧ ∃ j : Nat, j ≤ n ∧ v10 = .int .i64 (j : Int))
          (fun v _ => L + 1 - (RowKit.intOf v).toNat)
        case atStart => exact ⟨Below.refl _ _, 0, Nat.zero_le _, rfl⟩
        case round =>
          obtain ⟨hb5, j, hj, rfl⟩ := hrel
          have HB := Lib.hid hb5
          have HJ := Lib.hid hj
          have jL : j ≤ L := Nat.le_trans hj HNN.out
          have ij : (j : Int) ≤ (L : Int) := by omega
          have ij' : (decide (j ≤ L)) = true := decide_eq_true jL
          have bj : (j : Int) ≤ (pc : Int) := by omega
          have HJL := Lib.hid jL
          have RVr := Lib.hid (RV.out.fresh hb5)
          have hc16 : wr.cell? ⟨G, 16, none⟩ = some (.slice pa L pc) := by have := RVr.out.cr.cell 16 _ (RVr.out.cell 0); exact this
          have hS : Hid (At wr.drew G 0 ls ∧ wr.drew.cell? ⟨G, 16, none⟩ = some (.slice pa L pc)) := Lib.hid ⟨RVr.out.logs, hc16⟩
          clear hb5 hj
          go_wp2_with fail
          clear hc16
          refine pl_start 13 rfl (fun w' => At w' G 0 ls ∧ w'.cell? ⟨G, 16, none⟩ = some (.slice pa L pc)) (by kernel_rfl) ?_
          obtain ⟨wd, hwd⟩ : ∃ wd, wd = wr.drew := ⟨_, rfl⟩
          have BD : Hid (Below w5.heap.size w5 wd) := Lib.hid (by rw [hwd]; exact HB.out.drew)
          rw [← hwd] at hS ⊢
          clear hwd
          refine pl_take (i := 0) 68 rfl rfl rfl (by kernel_rfl) (by kernel_rfl) (by kernel_rfl) (by simp [Act.put]) hS.out ?_
          apply Exists.intro
          refine And.intro (fun w' hS' => ?_) ?_
          · clear hS'
            go_wp2
            first
              | exact ⟨trivial, rfl⟩
              | exact rfl
          refine pl_take (i := 1) 69 rfl rfl rfl (by kernel_rfl) (by kernel_rfl) (by kernel_rfl) (by simp [Act.put]) hS.out ?_
          apply Exists.intro
          refine And.intro (fun w' hS' => ?_) ?_
          · clear hS'
            go_wp2
            first
              | exact ⟨trivial, rfl⟩
              | exact rfl
          refine pl_take (i := 2) 70 rfl rfl rfl (by kernel_rfl) (by kernel_rfl) (by kernel_rfl) (by simp [Act.put]) hS.out ?_
          apply Exists.intro
          refine And.intro (fun w' hS' => ?_) ?_
          · clear hS'
            go_wp2
            first
              | exact ⟨trivial, rfl⟩
              | exact rfl
          refine pl_take (i := 3) 71 rfl rfl rfl (by kernel_rfl) (by kernel_rfl) (by kernel_rfl) (by simp [Act.put]) hS.out ?_
          apply Exists.intro
          refine And.intro (fun w' hS' => ?_) ?_
          · refine wpList_load_agg rfl 38 (.tmp 70) rfl ⟨G, 0, none⟩ rfl ls _ hS'.1.load Try.underlying38 rfl (by rw [RV.out.ll.1]; exact infoL16) ?_
            clear hS'
            go_wp2
            first
              | exact ⟨trivial, rfl⟩
              | exact rfl
          refine pl_take (i := 4) 72 rfl rfl rfl (by kernel_rfl) (by kernel_rfl) (by kernel_rfl) (by simp [Act.put]) hS.out ?_
          apply Exists.intro
          refine And.intro (fun w' hS' => ?_) ?_
          · clear hS'
            go_wp2
            first
              | exact ⟨trivial, rfl⟩
              | exact rfl
          refine pl_take (i := 5) 73 rfl rfl rfl (by kernel_rfl) (by kernel_rfl) (by kernel_rfl) (by simp [Act.put]) hS.out ?_
          apply Exists.intro
          refine And.intro (fun w' hS' => ?_) ?_
          · clear hS'
            go_wp2
            first
              | exact ⟨trivial, rfl⟩
              | exact rfl
          refine pl_take (i := 6) 74 rfl rfl rfl (by kernel_rfl) (by kernel_rfl) (by kernel_rfl) (by simp [Act.put]) hS.out ?_
          apply Exists.intro
          refine And.intro (fun w' hS' => ?_) ?_
          · clear hS'
            go_wp2
            first
              | exact ⟨trivial, rfl⟩
              | exact rfl
          refine pl_take (i := 7) 75 rfl rfl rfl (by kernel_rfl) (by kernel_rfl) (by kernel_rfl) (by simp [Act.put]) hS.out ?_
          apply Exists.intro
          refine And.intro (fun w' hS' => ?_) ?_
          · have hc := hS'.2
            clear hS'
            go_wp2
            first
              | exact ⟨trivial, rfl⟩
              | exact rfl
          refine pl_take (i := 8) 76 rfl rfl rfl (by kernel_rfl) (by kernel_rfl) (by kernel_rfl) (by simp [Act.put]) hS.out ?_
          apply Exists.intro
          refine And.intro (fun w' hS' => ?_) ?_
          · clear hS'
            go_wp2
            first
              | exact ⟨trivial, rfl⟩
              | exact rfl
          refine pl_take (i := 9) 77 rfl rfl rfl (by kernel_rfl) (by kernel_rfl) (by kernel_rfl) (by simp [Act.put]) hS.out ?_
          apply Exists.intro
          refine And.intro (fun w' hS' => ?_) ?_
          · clear hS'
            go_wp2
            first
              | exact ⟨trivial, rfl⟩
              | exact rfl
          refine pl_heavy (i := 10) rfl (by kernel_rfl) ?_
          refine wpList_build rfl 41 _ rfl (.agg (ls ++ [Value.slice pa j pc, Value.int .i64 0, Value.bool false]).toArray) (by simp only [List.map_toArray, List.map_cons, List.map_nil]; exact build_rd wd ls (.slice pa j pc) pa j pc RV.out.ll.1 rfl) ?_
          go_wp2
          refine And.intro hS.out ?_
          refine pl_heavy (i := 11) rfl (by kernel_rfl) ?_
          refine wpList_box rfl 41 (.tmp 78) rfl (ls ++ [Value.slice pa j pc, Value.int .i64 0, Value.bool false]) rfl ?_
          intro w7 k7 b7 s7
          obtain ⟨G2, hG2⟩ : ∃ G2, G2 = wd.heap.size := ⟨_, rfl⟩
          rw [← hG2] at k7 ⊢
          have K7 := Lib.hid k7
          have B7 := Lib.hid (BD.out.trans (b7.mono BD.out.size))
          have R7 : Hid (RkAt w7 G2 (.slice pa j pc) k.set (k.wait.take j) 0 false) := Lib.hid ((RV.out.fresh BD.out).pre HLL.out j HJL.out b7 k7)
          have h1 : At w7 G 0 ls ∧ w7.cell? ⟨G, 16, none⟩ = some (.slice pa L pc) := ⟨hS.out.1.fresh b7, cell_kept hS.out.2 b7⟩
          clear hS k7 b7 s7 hG2
          have hS := Lib.hid h1
          clear h1
          go_wp2
          refine And.intro hS.out ?_
          refine pl_take (i := 12) 11 rfl rfl rfl (by kernel_rfl) (by kernel_rfl) (by kernel_rfl) (by simp [Act.put]) hS.out ?_
          apply Exists.intro
          refine And.intro (fun w' hS' => ?_) ?_
          · clear hS'
            go_wp2
            first
              | exact ⟨trivial, rfl⟩
              | exact rfl
          refine pl_done (by kernel_rfl) ?_
          have hc16 := hS.out.2
          obtain ⟨a', ha'⟩ : ∃ a', a' = if pc = j then pa else pa.map (·.add (j * 4)) := ⟨_, rfl⟩
          have HA := Lib.hid ha'
          clear ha'
          go_wp2_with (with_reducible refine stopAt 87 ?_)
          refine Stop.go ?_
          refine wpList_slice rfl 39 (.tmp 85) _ _ _ rfl (.slice a' (L - j) (pc - j)) (by rw [HA.out]; exact run_slice_from Try.underlying39 infoPut pa L pc j HJL.out) ?_
          clear hc16
          have RST : Hid (Rest w7 (.slice a' (L - j) (pc - j)) (k.wait.drop j)) := Lib.hid (by rw [HA.out]; exact (RV.out.fresh B7.out).rest HLL.out j HJL.out)
          have NE := Lib.hid (near_any w7 D S wv5 KD G2 (.slice pa j pc) k.set (k.wait.take j) 0 false (.slice a' (L - j) (pc - j)) (k.wait.drop j) (OD5.out.1.fresh B7.out) KDL.out R7.out
            (fun q y hy => by rw [List.take_take] at hy; exact OKK.out.1.pre _ y hy)
            (fun q i b hq => by
              have hq2 : k.wait[q]? = some (.put i b) := by
                rw [List.getElem?_take] at hq
                split at hq
                · exact hq
                · cases hq
              exact OKK.out.1.put_le hq2 (KI.out q i b hq2))
            (by rw [List.length_take, ← HLL.out]; omega) RST.out (by rw [List.length_drop, ← HLL.out]; omega))
          go_wp2_with fail
          refine NE.out.mono ?_
          rintro e w8 ⟨⟨Bn, rfl, hBn⟩, b8⟩
          have HBN := Lib.hid hBn
          have B8 := Lib.hid (B7.out.trans (b8.mono B7.out.size))
          have BF : Hid (Below w.heap.size w w8) := Lib.hid (OD5.out.2.1.trans (B8.out.mono OD5.out.2.1.size))
          clear hBn b8 NE RST R7 K7 hS
          cases Bn
          case true =>
            go_wp2
            go_ret
            exact ⟨rfl, BF.out⟩
          case false =>
            have HNE : Hid (j + 1 ≤ n) := Lib.hid (by
              rcases Nat.lt_or_ge j n with h | h
              · exact h
              · obtain rfl : j = n := Nat.le_antisymm HJ.out h
                exact absurd (HBN.out NO.out) (by simp))
            go_wp2
            go_roundw
            case rel => exact ⟨B8.out, j + 1, HNE.out, by go_num⟩
            case measure => have h1 := HNE.out; have h2 := HNN.out; simp only [RowKit.intOf]; omega

end Go.Proofs.Ytbbbgpdhdlknjaa
