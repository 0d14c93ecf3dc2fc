/- Merkle: the path of a place: the walk. -/
import Derived.Test.YtbabjepblakboaaYc
import Derived.Test.YtbabjepblakboaaPlanF
namespace Go.Proofs.Ytbabjepblakboaa
set_option linter.unusedVariables false
set_option linter.unusedSimpArgs false
open Go.RowKit Go.Lib

theorem results_cellT {P : Program} {fn : Func} {p u : Tmp} {ty : TypeId} (h : fn.results = #[.cell p ty, .tmp u]) (tmps : Array Value) (w : World) (g : Nat) (t : TypeId) (cs : Array Value) (fr : Nat × Nat) (d : TypeDesc)
    (hp : tmps.getD p undef = .pointer (some ⟨g, 0, none⟩)) (hg : w.heap[g]? = some (.cells cs t fr))
    (hu : P.underlying ty = some d) (hd : (match d with | .struct _ | .array _ _ => true | _ => false) = true) (hi : (P.info? ty).map (·.size) = some cs.size) :
    (results fn tmps).run P w = .ok (.tuple #[.agg cs, tmps.getD u undef]) w := by
  have hp' : tmps[p]?.getD undef = .pointer (some ⟨g, 0, none⟩) := by simpa using hp
  simp [results, h, hp', asAddr, run_loadVar_row w g t ty cs fr d hg hu hd hi]

theorem infoPath : (Try.prog.info? 92).map (·.size) = some 3 := by kernel_rfl

theorem own_only {w w' : World} {base g : Nat} {e : TypeId} {size : Nat} {v : Value} {n : Nat} {xs : List Value} (h : w.ownsRow base e size v n xs) (ho : Only g w w') (hg : v.ownBlock ≠ some g) : w'.ownsRow base e size v n xs := by
  refine ⟨h.1, ?_⟩
  rcases h.2 with h2 | ⟨k, cap, cur, hv, hk, hh, r⟩
  · exact .inl h2
  · exact .inr ⟨k, cap, cur, hv, hk, by rw [ho.block k (fun e => hg (by rw [hv, ← e]; rfl))]; exact hh, r⟩

theorem Ho.only {w w' : World} {base g : Nat} {v : Value} {l : List Bs} (h : Ho w base v l) (ho : Only g w w') (hg : g < base) : Ho w' base v l :=
  ⟨h.1, own_only h.2 ho (fun e => by have := (h.2.lt g e).1; omega)⟩

theorem Hs.only {w w' : World} {g : Nat} {v : Value} {l : List Bs} (h : Hs w v l) (ho : Only g w w') (hg : v.ownBlock ≠ some g) : Hs w' v l :=
  ⟨h.1, h.2.kept fun k _ hv => ho.block k (fun e => hg (by rw [hv, e]))⟩

theorem Hs.grown {w w' : World} {row : Option Nat} {v : Value} {l : List Bs} (h : Hs w v l) (ho : w.grownBy w' row) (hg : ∀ k, v.ownBlock = some k → row ≠ some k) : Hs w' v l :=
  ⟨h.1, h.2.kept fun k hk hv => ho.block k hk (fun e => hg k hv (by rw [e]))⟩

theorem CB.grown {w w' : World} {row : Option Nat} {e : TypeId} {g : Nat} {L : List Value} (h : CB w e g L) (ho : w.grownBy w' row) (hg : row ≠ some g) : CB w' e g L := by
  unfold CB
  rw [ho.block g h.lt (fun e => hg e.symm)]
  exact h

theorem Hs.own_lt {w : World} {v : Value} {l : List Bs} (h : Hs w v l) (h0 : 0 < l.length) {k : Nat} (hk : v.ownBlock = some k) : k < w.heap.size := by
  obtain ⟨ad, c, he, hc⟩ := h.elem (List.getElem?_eq_getElem h0)
  have hx := h.1 _ (List.getElem_mem h0)
  obtain ⟨u, hu⟩ : ∃ u, (bvs l[0])[0]? = some u := ⟨_, List.getElem?_eq_getElem (show 0 < (bvs l[0]).length by rw [bvs_length, hx]; decide)⟩
  have := block_lt_of_cell (hc 0 u hu)
  rw [Addr.add_block, Addr.add_block] at this
  rw [he] at hk
  simp [Value.ownBlock] at hk
  omega

theorem accP_next {α : Type} {K : α → α → α} {d : α} {n : Nat} {l : List α} {t : Nat} {x : α} (hx : (upN K t l)[bes (n / 2 ^ t)]? = some x) : accP K d n l (t + 1) = accP K d n l t ++ [x] := by
  rw [accP, if_pos (List.getElem?_eq_some_iff.1 hx).1, List.getD_eq_getElem?_getD, hx]
  rfl

theorem accP_same {α : Type} {K : α → α → α} {d : α} {n : Nat} {l : List α} {t : Nat} (hx : ¬ bes (n / 2 ^ t) < (upN K t l).length) : accP K d n l (t + 1) = accP K d n l t := by
  rw [accP, if_neg hx, List.append_nil]

set_option maxRecDepth 100000 in
set_option maxHeartbeats 1000000 in
theorem mpath_no (w : World) (n : Int) (v : Value) (l : List Bs) (h : Hs w v l) (hn : n < 0 ∨ (l.length : Int) ≤ n) :
    Calls Try.prog 47 #[.int .i64 n, v] w fun e w' => e = .returned (.tuple #[.agg #[.int .i64 0, .int .i64 0, .slice none 0 0], .int .i64 2]) ∧ Below w.heap.size w w' := by
  obtain ⟨a0, c0, rfl⟩ := h.slice
  have CS := Lib.hid (fun w0 => msize_no w0 n (l.length : Int) (by omega))
  clear h hn
  go_enter Try.func47, Try.ntmps47
  go_wp2_with fail
  refine (CS.out _).mono ?_
  rintro e w1 ⟨rfl, hw1⟩
  have b1 : Below w.heap.size w w1 := by rw [hw1]; exact (Below.refl _ w).alloc (Nat.le_refl _) _
  have k1 : CB w1 92 w.heap.size [.int .i64 0, .int .i64 0, .slice none 0 0] := by rw [hw1]; exact CB.new w _ [.int .i64 0, .int .i64 0, .slice none 0 0]
  have B1 := Lib.hid b1
  have K1 := Lib.hid k1
  clear b1 k1 hw1
  go_wp2_with (with_reducible refine stopStore 92 ?_)
  refine Stop.go ?_
  refine wpList_store_var rfl 92 (.tmp 4) (.tmp 19) rfl w.heap.size _ rfl _ [.int .i64 0, .int .i64 0, .slice none 0 0] rfl K1.out (by simp) (by decide) (by exact infoPath) ?_
  intro w2 k2 o2
  have B2 : Hid (Below w.heap.size w w2) := Below.only B1.out o2 (Nat.le_refl _)
  have K2 := Lib.hid k2
  clear k2 o2 K1 B1
  go_wp2
  exact bodyPost_ret (results_cellT rfl _ _ w.heap.size _ _ _ _ rfl K2.out Try.underlying92 rfl (by exact infoPath)) rfl ⟨rfl, B2.out⟩

set_option maxRecDepth 100000 in
set_option maxHeartbeats 2000000 in
theorem mpath_ok (w : World) (n : Nat) (v : Value) (l : List Bs) (h : Hs w v l) (hn : n < l.length) (hl : l.length ≤ 1048576) :
    Calls Try.prog 47 #[.int .i64 (n : Int), v] w fun e w' => ∃ v', e = .returned (.tuple #[.agg #[.int .i64 (n : Int), .int .i64 (l.length : Int), v'], .int .i64 0]) ∧ Hs w' v' (pathM knotB [] 20 n (l.map leafB)) ∧ Below w.heap.size w w' := by
  obtain ⟨i0, hi, hz0, hz1, hz2⟩ := info_parts infoHash3
  obtain ⟨a0, c0, rfl⟩ := h.slice
  have CS := Lib.hid (fun w0 => msize_ok w0 n l.length hn hl)
  have CL := fun w0 h0 => leaves_any w0 (.slice a0 l.length c0) l h0 hl
  obtain ⟨ls, hls⟩ : ∃ ls, ls = l.map leafB := ⟨_, rfl⟩
  rw [← hls] at CL ⊢
  obtain ⟨N, hN⟩ : ∃ N, N = l.length := ⟨_, rfl⟩
  have lsl : ls.length = N := by rw [hls, hN, List.length_map]
  have ls32 : H32 ls := by rw [hls]; exact leaves_h32 l
  rw [← hN] at h hn hl CL CS ⊢
  have HLS := Lib.hid (And.intro lsl ls32)
  have H := Lib.hid h
  replace CL := Lib.hid CL
  have HB := Lib.hid (And.intro hn hl)
  clear h hls lsl ls32 hN hn hl
  obtain ⟨sz, hsz⟩ : ∃ s, s = sizeM 20 n N := ⟨_, rfl⟩
  rw [← hsz] at CS
  clear hsz
  go_enter Try.func47, Try.ntmps47
  go_wp2_with fail
  refine (CS.out _).mono ?_
  rintro e w1 ⟨rfl, hw1⟩
  have b1 : Below w.heap.size w w1 := by rw [hw1]; exact (Below.refl _ w).alloc (Nat.le_refl _) _
  have k1 : CB w1 92 w.heap.size [.int .i64 0, .int .i64 0, .slice none 0 0] := by rw [hw1]; exact CB.new w _ [.int .i64 0, .int .i64 0, .slice none 0 0]
  have s1 : w1.heap.size = w.heap.size + 1 := by rw [hw1]; exact Array.size_push _
  have B1 := Lib.hid b1
  have K1 := Lib.hid k1
  have S1 := Lib.hid s1
  clear b1 k1 hw1 s1
  go_wp2_with (with_reducible refine stopStore 92 ?_)
  refine Stop.go ?_
  obtain ⟨G, hG⟩ : ∃ G, G = w1.heap.size := ⟨_, rfl⟩
  rw [← hG]
  have ba : Below w1.heap.size w1 (w1.alloc (Obj.cells #[.int .i64 0, .int .i64 0, .slice none 0 0] 92)) := (Below.refl _ w1).alloc (Nat.le_refl _) _
  refine wpList_store_var rfl 92 (.tmp 8) (.tmp 24) rfl G _ rfl _ [.int .i64 (n : Int), .int .i64 (N : Int), .slice none 0 0] rfl (by rw [hG]; exact heap_alloc_new w1 _) (by simp) (by intro u hu; simp at hu; rcases hu with rfl | rfl | rfl <;> rfl) (by exact infoPath) ?_
  intro w2 k2 o2
  have b2 : Below w1.heap.size w1 w2 := Below.only ba o2 (by omega)
  have z2 : G + 1 ≤ w2.heap.size := by rw [o2.size, hG]; exact Nat.le_of_eq (Array.size_push _).symm
  have gw : w.heap.size < G := by have := S1.out; omega
  have B2 := Lib.hid (B1.out.tr b2)
  have R2 := Lib.hid (K1.out.fresh b2)
  have K2 : Hid (CB w2 92 G [.int .i64 (n : Int), .int .i64 (N : Int), .slice none 0 0]) := Lib.hid k2
  have GW := Lib.hid gw
  have Z2 := Lib.hid z2
  clear ba k2 o2 b2 z2 gw hG B1 K1 S1
  go_wp2_with fail
  refine (CL.out w2 (H.out.fresh B2.out)).mono ?_
  rintro e w3 ⟨v3, rfl, o3, b3⟩
  have hs3 := Lib.hid o3.hs
  have ha3 := Lib.hid (fun k (hk : v3.ownBlock = some k) => Nat.le_trans Z2.out (o3.2.lt k hk).1)
  have B3 := Lib.hid (B2.out.tr b3)
  have R3 := Lib.hid (R2.out.fresh b3)
  have K3 := Lib.hid (K2.out.fresh b3)
  have Z3 : Hid (G + 1 ≤ w3.heap.size) := Nat.le_trans Z2.out b3.size
  clear o3 b3 B2 R2 K2 Z2
  obtain ⟨a3, c3, rfl⟩ := hs3.out.slice
  go_wp2
  go_loopw [0, 9] (fun v0 v9 wr => ∃ (t p : Nat) (vp : Value), p = n / 2 ^ t ∧ v0 = .int .i64 (p : Int) ∧ Hs wr v9 (upN knotB t ls) ∧ CB wr 92 w.heap.size [.int .i64 0, .int .i64 0, .slice none 0 0] ∧
      CB wr 92 G [.int .i64 (n : Int), .int .i64 (N : Int), vp] ∧ Ho wr (G + 1) vp (accP knotB [] n ls t) ∧ (∀ k, v9.ownBlock = some k → G + 1 ≤ k ∧ vp.ownBlock ≠ some k) ∧ G + 1 ≤ wr.heap.size ∧ Below w.heap.size w wr)
    (fun _ v _ => sliceLen v)
  case atStart => exact ⟨0, n, _, by simp, rfl, hs3.out, R3.out, K3.out, Ho.nil _ _, fun k hk => ⟨ha3.out k hk, by simp [Value.ownBlock]⟩, Z3.out, B3.out⟩
  case round =>
    obtain ⟨t, p, vp, hp, rfl, hs, hr, hk, ho, ha, hz, hb⟩ := hrel
    obtain ⟨q, hq⟩ : ∃ q, q = (upN knotB t ls).length := ⟨_, rfl⟩
    obtain ⟨a4, c4, rfl⟩ := hs.slice' hq.symm
    have hqc : q = cnt N t := by rw [hq, upN_length, HLS.out.1]
    have hpq : p < q := by rw [hp, hqc]; exact cnt_div n N t HB.out.1
    have hqN : q ≤ N := by rw [hqc]; exact cnt_le N t (by have := HB.out.1; omega)
    have HS := Lib.hid hs
    have HR := Lib.hid hr
    have HK := Lib.hid hk
    have HO := Lib.hid ho
    have HA := Lib.hid ha
    have HZ := Lib.hid hz
    have HW := Lib.hid hb
    have HP := Lib.hid hp
    have HQ := Lib.hid (And.intro hq (And.intro hqc (And.intro hpq hqN)))
    clear hp hs hr hk ho ha hz hb hq
    by_cases h1 : 1 < q
    · have j1 : (1 : Int) < (q : Int) := by omega
      have ht : t < 20 := cnt_many N t HB.out.2 (by have := HB.out.1; omega) (by rw [← hqc]; exact h1)
      have jx := bits_xor1 p (by have := HB.out.2; omega)
      obtain ⟨b, hb⟩ : ∃ b, b = bes p := ⟨_, rfl⟩
      rw [← hb] at jx
      have jp := tdiv2 p
      have HBs := Lib.hid hb
      have bp : (p : Int) ≤ 1048576 := by have := HB.out.2; omega
      have bq : (q : Int) ≤ 1048576 := by have := HB.out.2; omega
      have H1 := Lib.hid h1
      clear hqc hpq hqN hb h1 ht
      by_cases h2 : b < q
      · have j2 : (b : Int) < (q : Int) := by omega
        have H2 := Lib.hid h2
        clear h2
        obtain ⟨x, hx⟩ : ∃ x, (upN knotB t ls)[b]? = some x := ⟨_, List.getElem?_eq_getElem (by rw [← HQ.out.1]; exact H2.out)⟩
        obtain ⟨ad, c5, he⟩ := HS.out.isSome HQ.out.1.symm (by have := H1.out; omega)
        simp only [Value.slice.injEq, true_and] at he
        obtain ⟨rfl, rfl⟩ := he
        have hS : Hid (CB wr.drew 92 G [.int .i64 (n : Int), .int .i64 (N : Int), vp] ∧ Hs wr.drew (.slice (some ad) q c4) (upN knotB t ls)) := Lib.hid ⟨HK.out, HS.out.fresh (Below.refl _ _).drew⟩
        have HX := Lib.hid hx
        have HX32 := Lib.hid (HS.out.1.get hx)
        clear hx
        go_wp2_with fail
        refine pf_start 11 rfl (fun w' => CB w' 92 G [.int .i64 (n : Int), .int .i64 (N : Int), vp] ∧ Hs w' (.slice (some ad) q c4) (upN knotB t ls)) (fun i => i == 10) (by kernel_rfl) ?_
        refine pf_take (i := 0) 39 rfl rfl rfl (by kernel_rfl) (by kernel_rfl) (by kernel_rfl) (by kernel_rfl) (by kernel_rfl) (by simp [Act.put]) hS.out ?_
        apply Exists.intro
        refine And.intro (fun w' hS' => ?_) ?_
        · clear hS'
          go_wp2
          exact ⟨trivial, rfl⟩
        refine pf_take (i := 1) 40 rfl rfl rfl (by kernel_rfl) (by kernel_rfl) (by kernel_rfl) (by kernel_rfl) (by kernel_rfl) (by simp [Act.put]) hS.out ?_
        apply Exists.intro
        refine And.intro (fun w' hS' => ?_) ?_
        · have hc := hS'.1.cell 2 vp rfl
          clear hS'
          go_wp2
          exact ⟨trivial, rfl⟩
        refine pf_take (i := 2) 41 rfl rfl rfl (by kernel_rfl) (by kernel_rfl) (by kernel_rfl) (by kernel_rfl) (by kernel_rfl) (by simp [Act.put]) hS.out ?_
        apply Exists.intro
        refine And.intro (fun w' hS' => ?_) ?_
        · clear hS'
          go_wp2
          exact ⟨trivial, rfl⟩
        refine pf_take (i := 3) 42 rfl rfl rfl (by kernel_rfl) (by kernel_rfl) (by kernel_rfl) (by kernel_rfl) (by kernel_rfl) (by simp [Act.put]) hS.out ?_
        apply Exists.intro
        refine And.intro (fun w' hS' => ?_) ?_
        · clear hS'
          go_wp2
          exact ⟨trivial, rfl⟩
        refine pf_take (i := 4) 43 rfl rfl rfl (by kernel_rfl) (by kernel_rfl) (by kernel_rfl) (by kernel_rfl) (by kernel_rfl) (by simp [Act.put]) hS.out ?_
        apply Exists.intro
        refine And.intro (fun w' hS' => ?_) ?_
        · clear hS'
          go_wp2
          exact ⟨trivial, rfl⟩
        refine pf_take (i := 5) 44 rfl rfl rfl (by kernel_rfl) (by kernel_rfl) (by kernel_rfl) (by kernel_rfl) (by kernel_rfl) (by simp [Act.put]) hS.out ?_
        apply Exists.intro
        refine And.intro (fun w' hS' => ?_) ?_
        · clear hS'
          go_wp2
          exact ⟨trivial, rfl⟩
        refine pf_take (i := 6) 45 rfl rfl rfl (by kernel_rfl) (by kernel_rfl) (by kernel_rfl) (by kernel_rfl) (by kernel_rfl) (by simp [Act.put]) hS.out ?_
        apply Exists.intro
        refine And.intro (fun w' hS' => ?_) ?_
        · refine wpList_load_agg rfl 24 (.tmp 44) rfl (ad.add (b * 32)) rfl (bvs x) _ (hS'.2.elem' HX.out) Try.underlying24 rfl (by rw [bvs_length, HX32.out]; exact infoHash) ?_
          clear hS'
          go_wp2
          exact ⟨trivial, rfl⟩
        refine pf_heavy (i := 7) rfl (by kernel_rfl) ?_
        refine wpList_buildH rfl 1 _ rfl ([x]) (H32.one HX32.out) rfl (by decide) (by decide) (by kernel_rfl) ?_
        intro w4 p4 b4 s4
        have S4 : Hid (CB w4 92 G [.int .i64 (n : Int), .int .i64 (N : Int), vp] ∧ Hs w4 (.slice (some ad) q c4) (upN knotB t ls)) := Lib.hid ⟨hS.out.1.fresh b4, hS.out.2.fresh b4⟩
        have O4 := HO.out.fresh ((Below.refl _ wr).drew.tr b4)
        have B4 := Lib.hid (HW.out.drew.tr b4)
        have R4 := Lib.hid (HR.out.fresh ((Below.refl _ wr).drew.tr b4))
        have P4 := Lib.hid p4
        have O4l := O4.2
        have Z4 : G + 1 ≤ w4.heap.size := Nat.le_trans HZ.out b4.size
        obtain ⟨L, hL⟩ : ∃ L, L = accP knotB [] n ls t := ⟨_, rfl⟩
        rw [← hL] at O4 O4l
        have O4' := Lib.hid O4
        have HLq := Lib.hid hL
        have hLb : Hid (L.length ≤ 1048576) := Lib.hid (by rw [hL, accP_length]; have h1 := accS_le n ls.length t; have h2 := cnt_many N t HB.out.2 (by have := HB.out.1; omega) (by rw [← HQ.out.2.1]; exact H1.out); omega)
        replace Z4 := Lib.hid Z4
        have O4l' := Lib.hid O4l
        clear p4 b4 s4 O4 O4l hL
        go_wp2
        refine And.intro S4.out ?_
        refine pf_heavy (i := 8) rfl (by kernel_rfl) ?_
        refine wpList_append_rd _ rfl (.tmp 40) (.tmp 46) 22 rfl (G + 1) 24 i0 _ 32 32 Try.underlying22 hi hz0 hz1 hz2 (by simp [Value.cells]) (by decide) vp L.length (bvs L.flatten) rfl O4l'.out _ 1 _ rfl P4.out.2 (bvs_one _) (by unfold maxLen; have := hLb.out; omega) (by have := hLb.out; omega) Z4.out ?_
        intro v5 w5 hown5 hgr5 _ hnew
        have hgne : vp.ownBlock ≠ some G := fun e => by have := (O4l'.out.lt G e).1; omega
        have S5 : Hid (CB w5 92 G [.int .i64 (n : Int), .int .i64 (N : Int), vp] ∧ Hs w5 (.slice (some ad) q c4) (upN knotB t ls)) := Lib.hid ⟨S4.out.1.grown hgr5 hgne, S4.out.2.grown hgr5 (fun k hk => (HA.out k hk).2)⟩
        have hgw : vp.ownBlock ≠ some w.heap.size := fun e => by have := (O4l'.out.lt _ e).1; have := GW.out; omega
        have R5 := Lib.hid (R4.out.grown hgr5 hgw)
        have B5 := Lib.hid (B4.out.grown hgr5 B4.out.size (fun j hj => by have := (O4l'.out.lt j hj).1; have := GW.out; omega))
        have O5 : Hid (Ho w5 (G + 1) v5 (accP knotB [] n ls (t + 1))) := Lib.hid (by
          rw [accP_next (x := x) (by rw [← HP.out, ← HBs.out]; exact HX.out), ← HLq.out]
          refine ⟨O4'.out.1.append P4.out.1, ?_⟩
          rw [List.flatten_append, bvs_append, List.length_append]
          exact hown5)
        have A5 : Hid (∀ k, (Value.slice (some ad) q c4).ownBlock = some k → G + 1 ≤ k ∧ v5.ownBlock ≠ some k) := Lib.hid (fun k hk => ⟨(HA.out k hk).1, fun e => by
          rcases hnew k e with h | h
          · exact (HA.out k hk).2 h
          · have := S4.out.2.own_lt (by rw [← HQ.out.1]; have := H1.out; omega) hk
            omega⟩)
        obtain ⟨a5, m5, c5', rfl⟩ : ∃ a m c, v5 = .slice a m c := by obtain ⟨a, c, h⟩ := O5.out.slice; exact ⟨_, _, _, h⟩
        have Z5 : Hid (G + 1 ≤ w5.heap.size) := Lib.hid (Nat.le_trans Z4.out hgr5.size)
        clear hown5 hgr5 hnew hgne hgw
        go_wp2
        refine And.intro S5.out ?_
        refine pf_heavy (i := 9) rfl (by kernel_rfl) ?_
        go_wp2
        refine And.intro S5.out ?_
        refine pf_last (i := 10) rfl (by kernel_rfl) (by kernel_rfl) ?_
        have hc := S5.out.1.cell 2 vp rfl
        have hf := S5.out.1.free 2
        obtain ⟨w6, hw6, o6, k6⟩ : ∃ w6, w6 = w5.setCell ⟨G, 2, none⟩ (.slice a5 m5 c5') ∧ Only G w5 w6 ∧ CB w6 92 G [.int .i64 (n : Int), .int .i64 (N : Int), .slice a5 m5 c5'] :=
          ⟨_, rfl, Only.setCell w5 G 2 _, S5.out.1.set 2 (.slice a5 m5 c5')⟩
        have K6 := Lib.hid k6
        have R6 := Lib.hid (R5.out.only o6 (by have := GW.out; omega))
        have O6 := Lib.hid (O5.out.only o6 (by omega))
        have H6 := Lib.hid (S5.out.2.only o6 (fun e => by have := (A5.out G e).1; omega))
        have B6 : Hid (Below w.heap.size w w6) := Lib.hid (Below.only B5.out o6 (by have := GW.out; omega))
        have Z6 : Hid (G + 1 ≤ w6.heap.size) := Lib.hid (by rw [o6.size]; exact Z5.out)
        have W6 := Lib.hid hw6
        clear o6 k6 hw6 S5 R5 O5 B5 Z5 S4 O4' B4 R4 P4 Z4 O4l' hLb HLq hS
        go_wp2
        rw [← W6.out]
        clear W6
        clear hc hf
        refine pf_done (by kernel_rfl) ?_
        go_wp2_with fail
        refine (above_any w6 _ _ H6.out (by rw [← HQ.out.1]; have := HQ.out.2.2.2; have := HB.out.2; omega)).mono ?_
        rintro e w7 ⟨v7, rfl, o7, b7⟩
        have H7 := Lib.hid o7.hs
        have A7 : Hid (∀ k, v7.ownBlock = some k → G + 1 ≤ k ∧ (Value.slice a5 m5 c5').ownBlock ≠ some k) := Lib.hid (fun k hk => by
          have h1 := (o7.2.lt k hk).1
          refine ⟨Nat.le_trans Z6.out h1, fun e => ?_⟩
          have := (O6.out.2.lt k e).2
          omega)
        have K7 := Lib.hid (K6.out.fresh b7)
        have R7 := Lib.hid (R6.out.fresh b7)
        have O7 := Lib.hid (O6.out.fresh b7)
        have B7 := Lib.hid (B6.out.tr b7)
        have Z7 : Hid (G + 1 ≤ w7.heap.size) := Lib.hid (Nat.le_trans Z6.out b7.size)
        clear o7 b7
        obtain ⟨a8, c8, rfl⟩ := H7.out.slice
        have hl8 := Lib.hid (up_length knotB (upN knotB t ls))
        rw [← HQ.out.1] at hl8
        clear K6 R6 O6 B6 Z6 H6
        go_wp2
        go_roundw
        case rel => exact ⟨t + 1, p / 2, _, by rw [div_step, ← HP.out], by go_num, H7.out, R7.out, K7.out, O7.out, A7.out, Z7.out, B7.out⟩
        case measure => simp only [sliceLen]; have := hl8.out; have := H1.out; omega
      · have j2 : ¬ ((b : Int) < (q : Int)) := by omega
        have O6 : Hid (Ho wr (G + 1) vp (accP knotB [] n ls (t + 1))) := Lib.hid (by rw [accP_same (by rw [← HP.out, ← HBs.out, ← HQ.out.1]; exact h2)]; exact HO.out)
        go_wp2_with fail
        refine (above_any wr _ _ HS.out (by rw [← HQ.out.1]; have := HQ.out.2.2.2; have := HB.out.2; omega)).mono ?_
        rintro e w7 ⟨v7, rfl, o7, b7⟩
        have H7 := Lib.hid o7.hs
        have A7 : Hid (∀ k, v7.ownBlock = some k → G + 1 ≤ k ∧ vp.ownBlock ≠ some k) := Lib.hid (fun k hk => by
          have h1 := (o7.2.lt k hk).1
          refine ⟨Nat.le_trans HZ.out h1, fun e => ?_⟩
          have := (O6.out.2.lt k e).2
          omega)
        have K7 := Lib.hid (HK.out.fresh b7)
        have R7 := Lib.hid (HR.out.fresh b7)
        have O7 := Lib.hid (O6.out.fresh b7)
        have B7 := Lib.hid (HW.out.tr b7)
        have Z7 : Hid (G + 1 ≤ w7.heap.size) := Lib.hid (Nat.le_trans HZ.out b7.size)
        clear o7 b7
        obtain ⟨a8, c8, rfl⟩ := H7.out.slice
        have hl8 := Lib.hid (up_length knotB (upN knotB t ls))
        rw [← HQ.out.1] at hl8
        go_wp2
        go_roundw
        case rel => exact ⟨t + 1, p / 2, _, by rw [div_step, ← HP.out], by go_num, H7.out, R7.out, K7.out, O7.out, A7.out, Z7.out, B7.out⟩
        case measure => simp only [sliceLen]; have := hl8.out; have := H1.out; omega
    · have j1 : ¬ ((1 : Int) < (q : Int)) := by omega
      have HF : Hid (Hs wr vp (pathM knotB [] 20 n ls)) := Lib.hid (by
        have h1 := HO.out.hs
        rwa [accP_end knotB [] t 20 n ls (by rw [HLS.out.1]; exact HB.out.1) (by rw [HLS.out.1]; exact HB.out.2) (by rw [← HQ.out.1]; omega)] at h1)
      clear hqc hpq hqN h1
      go_wp2_with (with_reducible refine stopAt 49 ?_)
      refine Stop.go ?_
      refine wpList_load_agg rfl 92 (.tmp 8) rfl ⟨G, 0, none⟩ rfl [.int .i64 (n : Int), .int .i64 (N : Int), vp] _ (At.block HK.out).load Try.underlying92 rfl (by exact infoPath) ?_
      go_wp2_with (with_reducible refine stopStore 92 ?_)
      refine Stop.go ?_
      obtain ⟨a9, m9, c9, rfl⟩ : ∃ a m c, vp = .slice a m c := by obtain ⟨a, c, h⟩ := HF.out.slice; exact ⟨_, _, _, h⟩
      refine wpList_store_var rfl 92 (.tmp 4) (.tmp 49) rfl w.heap.size _ rfl _ [.int .i64 (n : Int), .int .i64 (N : Int), .slice a9 m9 c9] rfl HR.out (by simp) (by intro u hu; simp at hu; rcases hu with rfl | rfl | rfl <;> rfl) (by exact infoPath) ?_
      intro wf kf of
      have BF : Hid (Below w.heap.size w wf) := Below.only HW.out of (Nat.le_refl _)
      have HFF := Lib.hid (HF.out.only of (fun e => by have := (HO.out.2.lt _ e).1; have := GW.out; omega))
      have KF := Lib.hid kf
      clear kf of
      go_wp2
      exact bodyPost_ret (results_cellT rfl _ _ w.heap.size _ _ _ _ rfl KF.out Try.underlying92 rfl (by exact infoPath)) rfl ⟨_, rfl, HFF.out, BF.out⟩
end Go.Proofs.Ytbabjepblakboaa
