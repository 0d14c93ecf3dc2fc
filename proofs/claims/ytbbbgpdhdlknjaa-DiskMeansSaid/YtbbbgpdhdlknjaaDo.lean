/- Disks: a byte changed by somebody: the walk. -/
import Derived.Test.YtbbbgpdhdlknjaaDm
namespace Go.Proofs.Ytbbbgpdhdlknjaa
set_option linter.unusedVariables false
set_option linter.unusedSimpArgs false
open Go.RowKit Go.Lib

theorem edit_no3 [Inhabited (Option Nat)] (w : World) (D S : Nat) (wv : Value) (k : Dk) (i : Nat) (at_ : Int) (x : Value) (h : DkAt w D S wv k) (hi : i < 16) (h0 : 0 ≤ at_) (hn : ((k.now.getD i []).length : Int) ≤ at_) :
    Calls Try.prog 31 #[.pointer (some ⟨D, 0, none⟩), .int .i64 (i : Int), .int .i64 at_, x] w fun e w' => e = .returned (.int .i64 2) ∧ w = w' := by
  have T := Lib.hid (there_any w D S wv k h)
  have U := Lib.hid (has_yes w i hi)
  obtain ⟨vs, ns, css, hd⟩ := h
  obtain ⟨u, l, hv, hls, hr, hg⟩ := hd.ln.get hi
  have hc7 := hd.cd.cell (i + 1) _ ((dkC_now hd.ln.1 hi).trans hv)
  rw [Nat.add_comm i 1] at hc7
  obtain ⟨al, cl, rfl⟩ := hr.slice
  obtain ⟨n, hn'⟩ : ∃ n, n = l.length := ⟨_, rfl⟩
  rw [hg, ← hn'] at hn
  rw [← hn'] at hc7
  have bi : (i : Int) < 16 := by omega
  have b1 : (decide (at_ < 0)) = false := by simpa using h0
  clear hd hv hls hr hg hn' hi
  go_enter Try.func31, Try.ntmps31
  go_wp2_with fail
  refine (T.out).mono ?_
  rintro e w1 ⟨rfl, rfl⟩
  go_wp2_with fail
  refine (U.out).mono ?_
  rintro e w1 ⟨rfl, rfl⟩
  go_wp2
  go_ret
  exact ⟨rfl, rfl⟩

theorem edit_no1 [Inhabited (Option Nat)] (w : World) (D S : Nat) (wv : Value) (k : Dk) (i at_ : Int) (x : Value) (h : DkAt w D S wv k) (hi : hasB i = false) :
    Calls Try.prog 31 #[.pointer (some ⟨D, 0, none⟩), .int .i64 i, .int .i64 at_, x] w fun e w' => e = .returned (.int .i64 2) ∧ w = w' := by
  have T := Lib.hid (there_any w D S wv k h)
  have U := Lib.hid (has_no w i hi)
  clear h hi
  go_enter Try.func31, Try.ntmps31
  go_wp2_with fail
  refine (T.out).mono ?_
  rintro e w1 ⟨rfl, rfl⟩
  go_wp2_with fail
  refine (U.out).mono ?_
  rintro e w1 ⟨rfl, rfl⟩
  go_wp2
  go_ret
  exact ⟨rfl, rfl⟩

theorem edit_no2 [Inhabited (Option Nat)] (w : World) (D S : Nat) (wv : Value) (k : Dk) (i : Nat) (at_ : Int) (x : Value) (h : DkAt w D S wv k) (hi : i < 16) (h0 : at_ < 0) :
    Calls Try.prog 31 #[.pointer (some ⟨D, 0, none⟩), .int .i64 (i : Int), .int .i64 at_, x] w fun e w' => e = .returned (.int .i64 2) ∧ w = w' := by
  have T := Lib.hid (there_any w D S wv k h)
  have U := Lib.hid (has_yes w i hi)
  clear h hi
  go_enter Try.func31, Try.ntmps31
  go_wp2_with fail
  refine (T.out).mono ?_
  rintro e w1 ⟨rfl, rfl⟩
  go_wp2_with fail
  refine (U.out).mono ?_
  rintro e w1 ⟨rfl, rfl⟩
  go_wp2
  go_ret
  exact ⟨rfl, rfl⟩

/-- A byte of a log changed. -/
def edL (l : List Bs) (i a : Nat) (x : UInt8) : List Bs := l.set i ((l.getD i []).set a ((l.getD i []).getD a 0 ^^^ x))

def editK (k : Dk) (i a : Nat) (x : UInt8) : Dk :=
  let k1 := settleK k k.wait.length
  { k1 with set := edL k1.set i a x, now := edL k1.now i a x }

/-- The logs at S changed in one place, by a new row. -/
theorem DkV.setLog [Inhabited (Option Nat)] {w w' : World} {D S : Nat} {vs ns : List Value} {wv v : Value} {css : List (List Value)} {k : Dk} {i : Nat} {b : Bs} (h : DkV w D S vs ns wv css k) (hc : CB w' 62 S (vs.set i v)) (kt : Kt [62] w w') (hv : RdU w' v b) :
    DkV w' D S (vs.set i v) ns wv css { k with set := k.set.set i b } :=
  ⟨h.cd.kt kt (by decide), hc, (h.lv.kt kt (by decide)).set hv, h.ln.kt kt (by decide), h.wt.kt kt (by decide), h.wl, fun j x cs hx hcs => (h.ws j x cs hx hcs).kt kt (by decide) (by decide) (by decide)⟩

theorem DkV.nowLog [Inhabited (Option Nat)] {w w' : World} {D S : Nat} {vs ns : List Value} {wv v : Value} {css : List (List Value)} {k : Dk} {i : Nat} {b : Bs} (h : DkV w D S vs ns wv css k) (hc : CB w' 65 D (dkC S (ns.set i v) wv k.fuse k.armed k.dead)) (kt : Kt [65] w w') (hv : RdU w' v b) :
    DkV w' D S vs (ns.set i v) wv css { k with now := k.now.set i b } :=
  ⟨hc, h.cs.kt kt (by decide), h.lv.kt kt (by decide), (h.ln.kt kt (by decide)).set hv, h.wt.kt kt (by decide), h.wl, fun j x cs hx hcs => (h.ws j x cs hx hcs).kt kt (by decide) (by decide) (by decide)⟩

theorem infoPtrLg : (Try.prog.info? 61).map (fun i => (i.zero, i.size, i.bytes)) = some (some (.pointer none), 1, 8) := by kernel_rfl

/-- A row made out of bytes that are read has a block of its own where it has bytes. -/
theorem own_block {w : World} {base : Nat} {v : Value} {b : Bs} (h : w.ownsRow base 5 1 v b.length (bvs b)) (h0 : 0 < b.length) : ∃ g c cur, v = .slice (some ⟨g, 0, none⟩) b.length c ∧ base ≤ g ∧ b.length ≤ c ∧ c ≤ maxLen ∧ CB w 5 g cur ∧ b.length ≤ cur.length ∧ cur.take b.length = bvs b := by
  rcases h.2 with ⟨_, h1⟩ | ⟨g, cap, cur, rfl, hbg, hg, hnc, hcm, hcs, htake⟩
  · omega
  · refine ⟨g, cap, cur.toList, rfl, hbg, hnc, hcm, hg, ?_, ?_⟩
    · have h5 : cur.toList.length = cap := by simpa using hcs
      rw [h5]; exact hnc
    · simpa using htake

theorem rdu_block [Inhabited (Option Nat)] {w : World} {g : Nat} {cur : List Value} {n c : Nat} {b : Bs} (h : CB w 5 g cur) (hn : n = b.length) (hc : n ≤ c) (hm : c ≤ maxLen) (hx : outB ≠ some g) (ht : cur.take n = bvs b) : RdU w (.slice (some ⟨g, 0, none⟩) n c) b := by
  subst hn
  refine ⟨⟨by simp, .inr ⟨⟨g, 0, none⟩, c, rfl, hc, hm, fun j u hj => ?_⟩⟩, fun k hk => ?_⟩
  · rw [add_at, Nat.zero_add]
    refine h.cell _ u ?_
    rw [← ht, List.getElem?_take] at hj
    split at hj
    · exact hj
    · cases hj
  · simp only [Value.ownBlock, Option.some.injEq] at hk
    subst hk
    exact ⟨h.tag, hx⟩

theorem infoU8' : (Try.prog.info? 5).map (·.size) = some 1 := by kernel_rfl

theorem xor_u8 (x y : UInt8) : bits BinOp.xor IntKind.u8 (x.toNat : Int) (y.toNat : Int) = ((x ^^^ y).toNat : Int) := by
  have e : ∀ z : UInt8, BitVec.ofInt 8 (z.toNat : Int) = z.toBitVec := fun z => by
    apply BitVec.eq_of_toNat_eq
    rw [BitVec.toNat_ofInt]
    have := z.toNat_lt
    have h : z.toBitVec.toNat = z.toNat := rfl
    omega
  show IntKind.u8.wrap ((BitVec.ofInt 8 (x.toNat : Int) ^^^ BitVec.ofInt 8 (y.toNat : Int)).toNat : Int) = _
  rw [e, e]
  have h2 : ((x.toBitVec ^^^ y.toBitVec).toNat : Int) = ((x ^^^ y).toNat : Int) := rfl
  have h3 := (x ^^^ y).toNat_lt
  rw [h2]
  show (((x ^^^ y).toNat : Int) % 256) = _
  omega

/-- A disk between the two changes. -/
def edJ (k : Dk) (i a : Nat) (x : UInt8) : Nat → Dk
  | 0 => k
  | 1 => { k with set := edL k.set i a x }
  | _ => { k with set := edL k.set i a x, now := edL k.now i a x }

set_option maxRecDepth 100000 in
set_option maxHeartbeats 4000000 in
theorem edit_any [Inhabited (Option Nat)] (w : World) (D S : Nat) (wv : Value) (k : Dk) (i a : Nat) (x : UInt8) (h : DkAt w D S wv k) (hok : Ok k) (hw : k.wait.length ≤ 1000000) (hi : i < 16) (ha : a < (k.now.getD i []).length) (hav : Av w.heap.size) :
    Calls Try.prog 31 #[.pointer (some ⟨D, 0, none⟩), .int .i64 (i : Int), .int .i64 (a : Int), .int .u8 (x.toNat : Int)] w fun e w' => e = .returned (.int .i64 0) ∧ ∃ wv', DkAt w' D S wv' (editK k i a x) ∧ Mv D S wv w w' ∧ Grew w wv wv' := by
  have T := Lib.hid (there_any w D S wv k h)
  have U := Lib.hid (has_yes w i hi)
  have ST := Lib.hid (settle_any w D S wv k h k.wait.length (Nat.le_refl _) hw hok.pre hav)
  have AV := Lib.hid hav
  have OK1 := Lib.hid (hok.settle k.wait.length)
  obtain ⟨vs, ns, css, hd⟩ := h
  obtain ⟨u, l, hv, hls, hr, hg⟩ := hd.ln.get hi
  have hc7 := hd.cd.cell (i + 1) _ ((dkC_now hd.ln.1 hi).trans hv)
  have hc17 := hd.cd.cell 17 _ (dkC_tail hd.ln.1 0)
  rw [Nat.add_comm i 1] at hc7
  obtain ⟨al, cl, rfl⟩ := hr.slice
  obtain ⟨n, hn'⟩ : ∃ n, n = l.length := ⟨_, rfl⟩
  have HA := Lib.hid ha
  rw [hg, ← hn'] at ha
  rw [← hn'] at hc7
  obtain ⟨av, cv, rfl⟩ := hd.wt.slice
  have bi : (i : Int) < 16 := by omega
  have b1 : (decide (n ≤ a)) = false := by simp; omega
  have b2 : (decide ((a : Int) < 0)) = false := by simp
  have HI := Lib.hid hi
  clear hd hv hls hr hg hn' hi ha hw hok hav
  go_enter Try.func31, Try.ntmps31
  go_wp2_with fail
  refine (T.out).mono ?_
  rintro e w1 ⟨rfl, rfl⟩
  go_wp2_with fail
  refine (U.out).mono ?_
  rintro e w1 ⟨rfl, rfl⟩
  go_wp2_with fail
  refine (ST.out).mono ?_
  rintro e w2 ⟨rfl, wv2, d2, m2, g2⟩
  obtain ⟨vs2, ns2, css2, hd2⟩ := d2
  obtain ⟨k1, hk1⟩ : ∃ k1, k1 = settleK k k.wait.length := ⟨_, rfl⟩
  have MS := Lib.hid (And.intro m2 g2)
  rw [← hk1] at hd2 OK1
  have EK : Hid (editK k i a x = { k1 with set := edL k1.set i a x, now := edL k1.now i a x }) := Lib.hid (by rw [editK, ← hk1])
  have SN : Hid (k1.set = k1.now ∧ k1.now = k.now) := Lib.hid (by
    have h1 := OK1.out.now
    have h2 : k1.wait = [] := by rw [hk1, settleK]; simp
    rw [h2] at h1
    exact ⟨h1.symm, by rw [hk1]; rfl⟩)
  have HD2 := Lib.hid hd2
  have hS : Hid (w2.drew.cell? ⟨D, 0, none⟩ = some (.pointer (some ⟨S, 0, none⟩))) := Lib.hid ((hd2.fresh (Below.refl _ w2).drew).cd.cell 0 _ rfl)
  clear hd2 hk1 m2 g2 hc7 hc17 b1 b2
  go_wp2_with fail
  refine pl_start 10 rfl (fun w' => w'.cell? ⟨D, 0, none⟩ = some (.pointer (some ⟨S, 0, none⟩))) (by kernel_rfl) ?_
  refine pl_take (i := 0) 41 rfl rfl rfl (by kernel_rfl) (by kernel_rfl) (by kernel_rfl) (by simp [Act.put]) hS.out ?_
  apply Exists.intro
  refine And.intro (fun w' hS' => ?_) ?_
  · clear hS'
    go_wp2
    first
      | exact ⟨trivial, rfl⟩
      | exact rfl
  refine pl_take (i := 1) 42 rfl rfl rfl (by kernel_rfl) (by kernel_rfl) (by kernel_rfl) (by simp [Act.put]) hS.out ?_
  apply Exists.intro
  refine And.intro (fun w' hS' => ?_) ?_
  · clear hS'
    go_wp2
    first
      | exact ⟨trivial, rfl⟩
      | exact rfl
  refine pl_take (i := 2) 43 rfl rfl rfl (by kernel_rfl) (by kernel_rfl) (by kernel_rfl) (by simp [Act.put]) hS.out ?_
  apply Exists.intro
  refine And.intro (fun w' hS' => ?_) ?_
  · clear hS'
    go_wp2
    first
      | exact ⟨trivial, rfl⟩
      | exact rfl
  refine pl_take (i := 3) 44 rfl rfl rfl (by kernel_rfl) (by kernel_rfl) (by kernel_rfl) (by simp [Act.put]) hS.out ?_
  apply Exists.intro
  refine And.intro (fun w' hS' => ?_) ?_
  · have hc := hS'
    clear hS'
    go_wp2
    first
      | exact ⟨trivial, rfl⟩
      | exact rfl
  refine pl_take (i := 4) 45 rfl rfl rfl (by kernel_rfl) (by kernel_rfl) (by kernel_rfl) (by simp [Act.put]) hS.out ?_
  apply Exists.intro
  refine And.intro (fun w' hS' => ?_) ?_
  · clear hS'
    go_wp2
    first
      | exact ⟨trivial, rfl⟩
      | exact rfl
  refine pl_take (i := 5) 46 rfl rfl rfl (by kernel_rfl) (by kernel_rfl) (by kernel_rfl) (by simp [Act.put]) hS.out ?_
  apply Exists.intro
  refine And.intro (fun w' hS' => ?_) ?_
  · clear hS'
    go_wp2
    first
      | exact ⟨trivial, rfl⟩
      | exact rfl
  refine pl_take (i := 6) 47 rfl rfl rfl (by kernel_rfl) (by kernel_rfl) (by kernel_rfl) (by simp [Act.put]) hS.out ?_
  apply Exists.intro
  refine And.intro (fun w' hS' => ?_) ?_
  · clear hS'
    go_wp2
    first
      | exact ⟨trivial, rfl⟩
      | exact rfl
  refine pl_take (i := 9) 50 rfl rfl rfl (by kernel_rfl) (by kernel_rfl) (by kernel_rfl) (by simp [Act.put]) hS.out ?_
  apply Exists.intro
  refine And.intro (fun w' hS' => ?_) ?_
  · clear hS'
    go_wp2
    first
      | exact ⟨trivial, rfl⟩
      | exact rfl
  obtain ⟨wd, hwd⟩ : ∃ wd, wd = w2.drew := ⟨_, rfl⟩
  have BD : Hid (Below w2.heap.size w2 wd) := Lib.hid (by rw [hwd]; exact (Below.refl _ w2).drew)
  rw [← hwd] at hS ⊢
  clear hwd
  refine pl_heavy (i := 7) rfl (by kernel_rfl) ?_
  go_wp2
  obtain ⟨w6, h6, k6, b6, s6⟩ := alloc_cb wd 61 [.pointer (some ⟨S, 0, none⟩), .pointer (some ⟨D, 1, none⟩)]
  have B6 := Lib.hid (BD.out.tr b6)
  have q := (HD2.out.fresh B6.out).cd.cell 0 _ rfl
  refine And.intro (by rw [h6] at q; exact q) ?_
  change wpAnyH _ _ _ _ _ _ _ _ (wd.alloc (.cells [.pointer (some ⟨S, 0, none⟩), .pointer (some ⟨D, 1, none⟩)].toArray 61))
  rw [← h6]
  obtain ⟨gB, hgB⟩ : ∃ gB, gB = wd.heap.size := ⟨_, rfl⟩
  rw [← hgB] at k6 ⊢
  clear h6 hS hgB BD
  have hS := Lib.hid q
  have K6 := Lib.hid k6
  have D6 := Lib.hid (HD2.out.fresh B6.out)
  clear q k6 b6 s6
  refine pl_take (i := 8) 49 rfl rfl rfl (by kernel_rfl) (by kernel_rfl) (by kernel_rfl) (by simp [Act.put]) hS.out ?_
  apply Exists.intro
  refine And.intro (fun w' hS' => ?_) ?_
  · clear hS'
    go_wp2
    first
      | exact ⟨trivial, rfl⟩
      | exact rfl
  refine pl_done (by kernel_rfl) ?_
  have LEN : Hid (∀ l : Bs, (l = k1.set.getD i [] ∨ l = k1.now.getD i []) → a < l.length ∧ l.length ≤ 16777216) := Lib.hid (by
    intro l hl
    have h1 := HA.out
    have h2 := OK1.out.get i
    rw [← SN.out.2] at h1
    rcases hl with rfl | rfl
    · rw [SN.out.1]; exact ⟨h1, h2⟩
    · exact ⟨h1, h2⟩)
  go_wp2
  clear HA
  go_loopw [50] (fun v50 wr => Mv D S wv2 w6 wr ∧ CB wr 61 gB [.pointer (some ⟨S, 0, none⟩), .pointer (some ⟨D, 1, none⟩)] ∧ ∃ j : Nat, j ≤ 2 ∧ v50 = .int .i64 (j : Int) ∧ ∃ vs ns, DkV wr D S vs ns wv2 css2 (edJ k1 i a x j))
    (fun v _ => 2 - (RowKit.intOf v).toNat)
  case atStart => exact ⟨Mv.refl _ _ _ _, K6.out, 0, by omega, rfl, _, _, D6.out⟩
  case round =>
    obtain ⟨hm, hkb, j, hj, rfl, vs1, ns1, hd⟩ := hrel
    have HM := Lib.hid hm
    have HR := Lib.hid hd
    have HKB := Lib.hid hkb
    have AVR : Hid (Av wr.heap.size) := Lib.hid (AV.out.mono (Nat.le_trans MS.out.1.size (Nat.le_trans B6.out.size hm.size)))
    have hb0 := hkb.cell 0 _ rfl
    have hb1 := hkb.cell 1 _ rfl
    clear hm hkb
    obtain rfl | rfl | rfl : j = 0 ∨ j = 1 ∨ j = 2 := by omega
    · obtain ⟨u, b, hu, hb, hrd, hg⟩ := hd.lv.get HI.out
      obtain ⟨a1, c1, rfl⟩ := hrd.slice
      have HRD := Lib.hid hrd
      have HBL : Hid (a < b.length ∧ b.length ≤ 16777216) := Lib.hid (LEN.out b (.inl (by rw [← hg]; rfl)))
      have HGB := Lib.hid hg
      have TGT : Hid (CB wr 62 S vs1) := Lib.hid hd.cs
      have HCE : Hid (vs1[i]? = some (.slice a1 b.length c1)) := Lib.hid hu
      have HLT : Hid (i < vs1.length) := Lib.hid (by rw [hd.lv.1]; exact HI.out)
      clear hu hb hrd hg hd hj
      have CL := Lib.hid (clone_any wr.drew _ b (HRD.out.fresh (Below.refl _ wr).drew) (by have := HBL.out; omega))
      have hS : Hid (wr.drew.cell? ⟨S, i, none⟩ = some (.slice a1 b.length c1)) := Lib.hid (TGT.out.drew.cell _ _ HCE.out)
      have BD : Hid (Below wr.heap.size wr wr.drew) := Lib.hid ((Below.refl _ wr).drew)
      go_wp2_with fail
      refine pf_start 11 rfl (fun w' => w'.cell? ⟨S, i, none⟩ = some (.slice a1 b.length c1)) (fun i => i == 10) (by kernel_rfl) ?_
      refine pf_take (i := 0) 54 rfl rfl rfl (by kernel_rfl) (by kernel_rfl) (by kernel_rfl) (by kernel_rfl) (by kernel_rfl) (by simp [Act.put]) hS.out ?_
      apply Exists.intro
      refine And.intro (fun w' hS' => ?_) ?_
      · clear hS'
        go_wp2
        first
          | exact ⟨trivial, rfl⟩
          | exact rfl
      refine pf_take (i := 1) 55 rfl rfl rfl (by kernel_rfl) (by kernel_rfl) (by kernel_rfl) (by kernel_rfl) (by kernel_rfl) (by simp [Act.put]) hS.out ?_
      apply Exists.intro
      refine And.intro (fun w' hS' => ?_) ?_
      · clear hS'
        go_wp2
        first
          | exact ⟨trivial, rfl⟩
          | exact rfl
      refine pf_take (i := 2) 56 rfl rfl rfl (by kernel_rfl) (by kernel_rfl) (by kernel_rfl) (by kernel_rfl) (by kernel_rfl) (by simp [Act.put]) hS.out ?_
      apply Exists.intro
      refine And.intro (fun w' hS' => ?_) ?_
      · clear hS'
        go_wp2
        first
          | exact ⟨trivial, rfl⟩
          | exact rfl
      refine pf_take (i := 3) 57 rfl rfl rfl (by kernel_rfl) (by kernel_rfl) (by kernel_rfl) (by kernel_rfl) (by kernel_rfl) (by simp [Act.put]) hS.out ?_
      apply Exists.intro
      refine And.intro (fun w' hS' => ?_) ?_
      · clear hS'
        go_wp2
        first
          | exact ⟨trivial, rfl⟩
          | exact rfl
      refine pf_take (i := 4) 58 rfl rfl rfl (by kernel_rfl) (by kernel_rfl) (by kernel_rfl) (by kernel_rfl) (by kernel_rfl) (by simp [Act.put]) hS.out ?_
      apply Exists.intro
      refine And.intro (fun w' hS' => ?_) ?_
      · clear hS'
        go_wp2
        first
          | exact ⟨trivial, rfl⟩
          | exact rfl
      refine pf_take (i := 5) 59 rfl rfl rfl (by kernel_rfl) (by kernel_rfl) (by kernel_rfl) (by kernel_rfl) (by kernel_rfl) (by simp [Act.put]) hS.out ?_
      apply Exists.intro
      refine And.intro (fun w' hS' => ?_) ?_
      · clear hS'
        go_wp2
        first
          | exact ⟨trivial, rfl⟩
          | exact rfl
      refine pf_take (i := 6) 60 rfl rfl rfl (by kernel_rfl) (by kernel_rfl) (by kernel_rfl) (by kernel_rfl) (by kernel_rfl) (by simp [Act.put]) hS.out ?_
      apply Exists.intro
      refine And.intro (fun w' hS' => ?_) ?_
      · have hc := hS'
        clear hS'
        go_wp2
        first
          | exact ⟨trivial, rfl⟩
          | exact rfl
      refine pf_free (i := 8) 62 rfl rfl rfl (by kernel_rfl) (by kernel_rfl) (by kernel_rfl) rfl (by simp [Act.put]) (fun _ => hS.out) ?_
      apply Exists.intro
      refine And.intro (fun w' => ?_) ?_
      · go_wp2
        first
          | exact ⟨trivial, rfl⟩
          | exact rfl
      refine pf_heavy (i := 7) rfl (by kernel_rfl) ?_
      go_wp2_with fail
      refine CL.out.mono ?_
      rintro e w8 ⟨v8, rfl, o8, b8⟩
      have B8 : Hid (Below wr.heap.size wr w8) := Lib.hid (BD.out.tr b8)
      obtain ⟨g8, c8, cur8, rfl, hg8, hc8, hm8, k8, hl8, ht8⟩ := own_block o8 (by have := HBL.out; omega)
      have hg8' : wr.heap.size ≤ g8 := Nat.le_trans BD.out.size hg8
      have T8 := Lib.hid (TGT.out.fresh B8.out)
      have K8 := Lib.hid k8
      have H8 := Lib.hid (And.intro hg8' (And.intro hc8 (And.intro hm8 (And.intro hl8 ht8))))
      have h1 : w8.cell? ⟨S, i, none⟩ = some (.slice a1 b.length c1) := T8.out.cell _ _ HCE.out
      clear hS o8 b8 CL BD hg8 hg8' hc8 hm8 k8 hl8 ht8
      have hS := Lib.hid h1
      clear h1
      go_wp2
      refine And.intro hS.out ?_
      refine pf_take (i := 9) 63 rfl rfl rfl (by kernel_rfl) (by kernel_rfl) (by kernel_rfl) (by kernel_rfl) (by kernel_rfl) (by simp [Act.put]) hS.out ?_
      apply Exists.intro
      refine And.intro (fun w' hS' => ?_) ?_
      · clear hS'
        go_wp2
        first
          | exact ⟨trivial, rfl⟩
          | exact rfl
      refine pf_last (i := 10) rfl (by kernel_rfl) (by kernel_rfl) ?_
      refine wpList_store_cell rfl 29 (.tmp 63) (.tmp 61) rfl S (i) _ rfl _ (.slice (some ⟨g8, 0, none⟩) b.length c8) rfl rfl T8.out (by have := HLT.out; omega) infoSl8 ?_
      intro w9 k9 o9
      have NG : Hid (g8 ≠ S) := Lib.hid (fun e => by have h1 := TGT.out.lt; have h2 := H8.out.1; omega)
      have K9 := Lib.hid k9
      have O9 := Lib.hid o9
      have C9 := Lib.hid (K8.out.only o9 NG.out)
      have hc9 : w9.cell? ⟨S, i, none⟩ = some (.slice (some ⟨g8, 0, none⟩) b.length c8) := K9.out.cell _ _ (List.getElem?_set_self (by have := HLT.out; omega))
      have hab : (a : Int) < (b.length : Int) := by have := HBL.out; omega
      have hby : w9.cell? ⟨g8, a, none⟩ = some (.int .u8 ((b.getD a 0).toNat : Int)) := C9.out.cell a _ (by
        have h1 := HBL.out.1
        have h2 : (bvs b)[a]? = some (bv (b.getD a 0)) := by simp [bvs, bv, List.getElem?_eq_getElem h1]
        rw [← H8.out.2.2.2.2, List.getElem?_take, if_pos h1] at h2
        exact h2)
      obtain ⟨y, hy⟩ : ∃ y, y = b.getD a 0 := ⟨_, rfl⟩
      rw [← hy] at hby
      have HY := Lib.hid hy
      clear k9 o9 hS hy
      go_wp2
      refine pf_done (by kernel_rfl) ?_
      go_wp2_with (with_reducible refine stopStore 5 ?_)
      refine Stop.go ?_
      refine wpList_store_cell rfl 5 (.tmp 74) (.tmp 73) rfl g8 a _ rfl _ (.int .u8 (bits BinOp.xor IntKind.u8 (y.toNat : Int) (x.toNat : Int))) rfl rfl C9.out (by have h1 := H8.out.2.2.2.1; have h2 := HBL.out.1; omega) infoU8' ?_
      intro w10 k10 o10
      rw [show (Value.int .u8 (bits BinOp.xor IntKind.u8 (y.toNat : Int) (x.toNat : Int))) = bv (b.getD a 0 ^^^ x) from by rw [xor_u8, HY.out]; rfl] at k10
      have RX : RdU w10 (.slice (some ⟨g8, 0, none⟩) b.length c8) (b.set a (b.getD a 0 ^^^ x)) := rdu_block k10 (by simp) H8.out.2.1 H8.out.2.2.1 (fun e => by have h1 := AVR.out _ e; have h2 := H8.out.1; omega) (by
        rw [List.take_set, H8.out.2.2.2.2]
        simp [bvs, bv])
      have CX : CB w10 62 S _ := K9.out.only o10 (Ne.symm NG.out)
      have KX : Kt [62] wr w10 := fun g' e' ht hn => by
        have q1 := B8.out.block g' ht.lt
        have q2 := O9.out.block g' (fun e1 => ht.ne TGT.out.tag (fun e2 => hn (by simp [e2])) e1)
        have q3 := o10.block g' (fun e1 => by have h1 := ht.lt; have h2 := H8.out.1; omega)
        exact q3.trans (q2.trans q1)
      have SX : Mv D S wv2 wr w10 := ⟨o10.os.trans (O9.out.os.trans B8.out.os), o10.tape.trans (O9.out.tape.trans B8.out.tape), o10.output.trans (O9.out.output.trans B8.out.output), by rw [o10.size, O9.out.size]; exact B8.out.size, fun j' hj' n1 n2 n3 =>
        (o10.block j' (fun e1 => by have h2 := H8.out.1; omega)).trans ((O9.out.block j' n2).trans (B8.out.block j' hj'))⟩
      clear k10 o10 hc9 hby hab
      have DX : Hid (DkV w10 D S _ ns1 wv2 css2 (edJ k1 i a x 1)) := Lib.hid (by
        have := HR.out.setLog CX KX RX
        simp only [edJ, edL] at this ⊢
        rw [show k1.set.getD i [] = b from HGB.out]
        exact this)
      have MX := Lib.hid SX
      have KB : Hid (CB w10 61 gB _) := Lib.hid (HKB.out.kt KX (by decide))
      clear RX CX KX SX
      go_wp2
      go_roundw
      case rel => exact ⟨HM.out.tr' MX.out, KB.out, 1, by omega, by go_num, _, _, DX.out⟩
      case measure => simp [RowKit.intOf]
    · obtain ⟨u, b, hu, hb, hrd, hg⟩ := hd.ln.get HI.out
      obtain ⟨a1, c1, rfl⟩ := hrd.slice
      have HRD := Lib.hid hrd
      have HBL : Hid (a < b.length ∧ b.length ≤ 16777216) := Lib.hid (LEN.out b (.inr (by rw [← hg]; rfl)))
      have HGB := Lib.hid hg
      obtain ⟨cur, hcur⟩ : ∃ cur, cur = dkC S ns1 wv2 (edJ k1 i a x 1).fuse (edJ k1 i a x 1).armed (edJ k1 i a x 1).dead := ⟨_, rfl⟩
      have TGT : Hid (CB wr 65 D cur) := Lib.hid (by rw [hcur]; exact hd.cd)
      have HCE : Hid (cur[1 + i]? = some (.slice a1 b.length c1)) := Lib.hid (by rw [hcur, Nat.add_comm]; exact (dkC_now hd.ln.1 HI.out).trans hu)
      have HLT : Hid (1 + i < cur.length) := Lib.hid (by rw [hcur, dkC_length hd.ln.1]; have := HI.out; omega)
      have HCUR := Lib.hid hcur
      have HNL := Lib.hid hd.ln.1
      clear hu hb hrd hg hd hj hcur
      have CL := Lib.hid (clone_any wr.drew _ b (HRD.out.fresh (Below.refl _ wr).drew) (by have := HBL.out; omega))
      have hS : Hid (wr.drew.cell? ⟨D, 1 + i, none⟩ = some (.slice a1 b.length c1)) := Lib.hid (TGT.out.drew.cell _ _ HCE.out)
      have BD : Hid (Below wr.heap.size wr wr.drew) := Lib.hid ((Below.refl _ wr).drew)
      go_wp2_with fail
      refine pf_start 11 rfl (fun w' => w'.cell? ⟨D, 1 + i, none⟩ = some (.slice a1 b.length c1)) (fun i => i == 10) (by kernel_rfl) ?_
      refine pf_take (i := 0) 54 rfl rfl rfl (by kernel_rfl) (by kernel_rfl) (by kernel_rfl) (by kernel_rfl) (by kernel_rfl) (by simp [Act.put]) hS.out ?_
      apply Exists.intro
      refine And.intro (fun w' hS' => ?_) ?_
      · clear hS'
        go_wp2
        first
          | exact ⟨trivial, rfl⟩
          | exact rfl
      refine pf_take (i := 1) 55 rfl rfl rfl (by kernel_rfl) (by kernel_rfl) (by kernel_rfl) (by kernel_rfl) (by kernel_rfl) (by simp [Act.put]) hS.out ?_
      apply Exists.intro
      refine And.intro (fun w' hS' => ?_) ?_
      · clear hS'
        go_wp2
        first
          | exact ⟨trivial, rfl⟩
          | exact rfl
      refine pf_take (i := 2) 56 rfl rfl rfl (by kernel_rfl) (by kernel_rfl) (by kernel_rfl) (by kernel_rfl) (by kernel_rfl) (by simp [Act.put]) hS.out ?_
      apply Exists.intro
      refine And.intro (fun w' hS' => ?_) ?_
      · clear hS'
        go_wp2
        first
          | exact ⟨trivial, rfl⟩
          | exact rfl
      refine pf_take (i := 3) 57 rfl rfl rfl (by kernel_rfl) (by kernel_rfl) (by kernel_rfl) (by kernel_rfl) (by kernel_rfl) (by simp [Act.put]) hS.out ?_
      apply Exists.intro
      refine And.intro (fun w' hS' => ?_) ?_
      · clear hS'
        go_wp2
        first
          | exact ⟨trivial, rfl⟩
          | exact rfl
      refine pf_take (i := 4) 58 rfl rfl rfl (by kernel_rfl) (by kernel_rfl) (by kernel_rfl) (by kernel_rfl) (by kernel_rfl) (by simp [Act.put]) hS.out ?_
      apply Exists.intro
      refine And.intro (fun w' hS' => ?_) ?_
      · clear hS'
        go_wp2
        first
          | exact ⟨trivial, rfl⟩
          | exact rfl
      refine pf_take (i := 5) 59 rfl rfl rfl (by kernel_rfl) (by kernel_rfl) (by kernel_rfl) (by kernel_rfl) (by kernel_rfl) (by simp [Act.put]) hS.out ?_
      apply Exists.intro
      refine And.intro (fun w' hS' => ?_) ?_
      · clear hS'
        go_wp2
        first
          | exact ⟨trivial, rfl⟩
          | exact rfl
      refine pf_take (i := 6) 60 rfl rfl rfl (by kernel_rfl) (by kernel_rfl) (by kernel_rfl) (by kernel_rfl) (by kernel_rfl) (by simp [Act.put]) hS.out ?_
      apply Exists.intro
      refine And.intro (fun w' hS' => ?_) ?_
      · have hc := hS'
        clear hS'
        go_wp2
        first
          | exact ⟨trivial, rfl⟩
          | exact rfl
      refine pf_free (i := 8) 62 rfl rfl rfl (by kernel_rfl) (by kernel_rfl) (by kernel_rfl) rfl (by simp [Act.put]) (fun _ => hS.out) ?_
      apply Exists.intro
      refine And.intro (fun w' => ?_) ?_
      · go_wp2
        first
          | exact ⟨trivial, rfl⟩
          | exact rfl
      refine pf_heavy (i := 7) rfl (by kernel_rfl) ?_
      go_wp2_with fail
      refine CL.out.mono ?_
      rintro e w8 ⟨v8, rfl, o8, b8⟩
      have B8 : Hid (Below wr.heap.size wr w8) := Lib.hid (BD.out.tr b8)
      obtain ⟨g8, c8, cur8, rfl, hg8, hc8, hm8, k8, hl8, ht8⟩ := own_block o8 (by have := HBL.out; omega)
      have hg8' : wr.heap.size ≤ g8 := Nat.le_trans BD.out.size hg8
      have T8 := Lib.hid (TGT.out.fresh B8.out)
      have K8 := Lib.hid k8
      have H8 := Lib.hid (And.intro hg8' (And.intro hc8 (And.intro hm8 (And.intro hl8 ht8))))
      have h1 : w8.cell? ⟨D, 1 + i, none⟩ = some (.slice a1 b.length c1) := T8.out.cell _ _ HCE.out
      clear hS o8 b8 CL BD hg8 hg8' hc8 hm8 k8 hl8 ht8
      have hS := Lib.hid h1
      clear h1
      go_wp2
      refine And.intro hS.out ?_
      refine pf_take (i := 9) 63 rfl rfl rfl (by kernel_rfl) (by kernel_rfl) (by kernel_rfl) (by kernel_rfl) (by kernel_rfl) (by simp [Act.put]) hS.out ?_
      apply Exists.intro
      refine And.intro (fun w' hS' => ?_) ?_
      · clear hS'
        go_wp2
        first
          | exact ⟨trivial, rfl⟩
          | exact rfl
      refine pf_last (i := 10) rfl (by kernel_rfl) (by kernel_rfl) ?_
      refine wpList_store_cell rfl 29 (.tmp 63) (.tmp 61) rfl D (1 + i) _ rfl _ (.slice (some ⟨g8, 0, none⟩) b.length c8) rfl rfl T8.out (by have := HLT.out; omega) infoSl8 ?_
      intro w9 k9 o9
      have NG : Hid (g8 ≠ D) := Lib.hid (fun e => by have h1 := TGT.out.lt; have h2 := H8.out.1; omega)
      have K9 := Lib.hid k9
      have O9 := Lib.hid o9
      have C9 := Lib.hid (K8.out.only o9 NG.out)
      have hc9 : w9.cell? ⟨D, 1 + i, none⟩ = some (.slice (some ⟨g8, 0, none⟩) b.length c8) := K9.out.cell _ _ (List.getElem?_set_self (by have := HLT.out; omega))
      have hab : (a : Int) < (b.length : Int) := by have := HBL.out; omega
      have hby : w9.cell? ⟨g8, a, none⟩ = some (.int .u8 ((b.getD a 0).toNat : Int)) := C9.out.cell a _ (by
        have h1 := HBL.out.1
        have h2 : (bvs b)[a]? = some (bv (b.getD a 0)) := by simp [bvs, bv, List.getElem?_eq_getElem h1]
        rw [← H8.out.2.2.2.2, List.getElem?_take, if_pos h1] at h2
        exact h2)
      obtain ⟨y, hy⟩ : ∃ y, y = b.getD a 0 := ⟨_, rfl⟩
      rw [← hy] at hby
      have HY := Lib.hid hy
      clear k9 o9 hS hy
      go_wp2
      refine pf_done (by kernel_rfl) ?_
      go_wp2_with (with_reducible refine stopStore 5 ?_)
      refine Stop.go ?_
      refine wpList_store_cell rfl 5 (.tmp 74) (.tmp 73) rfl g8 a _ rfl _ (.int .u8 (bits BinOp.xor IntKind.u8 (y.toNat : Int) (x.toNat : Int))) rfl rfl C9.out (by have h1 := H8.out.2.2.2.1; have h2 := HBL.out.1; omega) infoU8' ?_
      intro w10 k10 o10
      rw [show (Value.int .u8 (bits BinOp.xor IntKind.u8 (y.toNat : Int) (x.toNat : Int))) = bv (b.getD a 0 ^^^ x) from by rw [xor_u8, HY.out]; rfl] at k10
      have RX : RdU w10 (.slice (some ⟨g8, 0, none⟩) b.length c8) (b.set a (b.getD a 0 ^^^ x)) := rdu_block k10 (by simp) H8.out.2.1 H8.out.2.2.1 (fun e => by have h1 := AVR.out _ e; have h2 := H8.out.1; omega) (by
        rw [List.take_set, H8.out.2.2.2.2]
        simp [bvs, bv])
      have CX : CB w10 65 D _ := K9.out.only o10 (Ne.symm NG.out)
      have KX : Kt [65] wr w10 := fun g' e' ht hn => by
        have q1 := B8.out.block g' ht.lt
        have q2 := O9.out.block g' (fun e1 => ht.ne TGT.out.tag (fun e2 => hn (by simp [e2])) e1)
        have q3 := o10.block g' (fun e1 => by have h1 := ht.lt; have h2 := H8.out.1; omega)
        exact q3.trans (q2.trans q1)
      have SX : Mv D S wv2 wr w10 := ⟨o10.os.trans (O9.out.os.trans B8.out.os), o10.tape.trans (O9.out.tape.trans B8.out.tape), o10.output.trans (O9.out.output.trans B8.out.output), by rw [o10.size, O9.out.size]; exact B8.out.size, fun j' hj' n1 n2 n3 =>
        (o10.block j' (fun e1 => by have h2 := H8.out.1; omega)).trans ((O9.out.block j' n1).trans (B8.out.block j' hj'))⟩
      clear k10 o10 hc9 hby hab
      have DX : Hid (DkV w10 D S vs1 (ns1.set i _) wv2 css2 (edJ k1 i a x 2)) := Lib.hid (by
        rw [HCUR.out, Nat.add_comm 1 i, dkC_setNow HNL.out HI.out] at CX
        have := HR.out.nowLog CX KX RX
        simp only [edJ, edL] at this ⊢
        rw [show k1.now.getD i [] = b from HGB.out]
        exact this)
      have MX := Lib.hid SX
      have KB : Hid (CB w10 61 gB _) := Lib.hid (HKB.out.kt KX (by decide))
      clear RX CX KX SX
      go_wp2
      go_roundw
      case rel => exact ⟨HM.out.tr' MX.out, KB.out, 2, by omega, by go_num, _, _, DX.out⟩
      case measure => simp [RowKit.intOf]
    · go_wp2
      go_ret
      refine ⟨rfl, wv2, ⟨_, _, _, by rw [EK.out]; exact HR.out⟩, MS.out.1.tr ((Mv.fresh B6.out).tr' HM.out) MS.out.2, MS.out.2⟩

end Go.Proofs.Ytbbbgpdhdlknjaa
