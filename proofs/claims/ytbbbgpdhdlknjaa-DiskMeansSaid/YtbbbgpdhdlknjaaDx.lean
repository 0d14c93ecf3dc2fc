/- Disks apart: the law's walk. -/
import Derived.Test.YtbbbgpdhdlknjaaDw
import Derived.Test.YtbbbgpdhdlknjaaRowS
namespace Go.Proofs.Ytbbbgpdhdlknjaa
set_option linter.unusedVariables false
set_option linter.unusedSimpArgs false
open Go.RowKit Go.Lib

theorem infoSp : (Try.prog.info? 31).map (·.size) = some 6 := by kernel_rfl

theorem Tag.kt {w w' : World} {g : Nat} {e : TypeId} {E : List TypeId} (h : Tag w g e) (hk : Kt E w w') (he : e ∉ E) : Tag w' g e := h.kept (hk g e h he)

theorem inc_u8 (y : UInt8) : (((y.toNat : Int) + 1) % 256) = ((y + 1).toNat : Int) := by
  rw [UInt8.toNat_add]
  have : (1 : UInt8).toNat = 1 := rfl
  rw [this]
  omega

/-- The cells of a slice's bytes, in their block. -/
def BX (w : World) (v : Value) (m : Nat) : Prop := 0 < m → ∃ g c cur, v = .slice (some ⟨g, 0, none⟩) m c ∧ m ≤ c ∧ CB w 5 g cur ∧ m ≤ cur.length ∧ ∀ q, q < m → ∃ y, cur[q]? = some (bv y)

theorem BX.of_own {w : World} {base : Nat} {v : Value} {b : Bs} (h : w.ownsRow base 5 1 v b.length (bvs b)) : BX w v b.length := by
  intro h0
  obtain ⟨g, c, cur, rfl, _, hc, _, hcb, hl, ht⟩ := own_block h h0
  refine ⟨g, c, cur, rfl, hc, hcb, hl, fun q hq => ⟨b[q], ?_⟩⟩
  have : (bvs b)[q]? = some (bv b[q]) := by simp [bvs, hq]
  rw [← ht, List.getElem?_take, if_pos hq] at this
  exact this

theorem BX.kt {w w' : World} {v : Value} {m : Nat} {E : List TypeId} (h : BX w v m) (hk : Kt E w w') (he : 5 ∉ E) : BX w' v m := by
  intro h0
  obtain ⟨g, c, cur, hv, hc, hcb, hl, hq⟩ := h h0
  exact ⟨g, c, cur, hv, hc, hcb.kt hk he, hl, hq⟩

theorem BX.set {w' : World} {g c m q : Nat} {cur : List Value} {y : UInt8} (hc : m ≤ c) (hcb : CB w' 5 g (cur.set q (bv y))) (hl : m ≤ cur.length) (hq : ∀ q, q < m → ∃ y, cur[q]? = some (bv y)) : BX w' (.slice (some ⟨g, 0, none⟩) m c) m := by
  intro _
  refine ⟨g, c, _, rfl, hc, hcb, by rw [List.length_set]; exact hl, fun p hp => ?_⟩
  rw [List.getElem?_set]
  split
  · rename_i h1
    subst h1
    rw [if_pos (by omega)]
    exact ⟨y, rfl⟩
  · exact hq p hp

theorem Own.named {B : Nat} {w0 w : World} {D S : Nat} {wv : Value} {k : Dk} (h : @Own instInhabitedOption B w0 w D S wv k) (x : Option Nat) (hx : ∀ g, x = some g → w.heap.size ≤ g) : @Own ⟨x⟩ B w0 w D S wv k := ⟨h.1.name x hx, h.2⟩

theorem Own.back {x : Option Nat} {B : Nat} {w0 w w' : World} {D S : Nat} {wv : Value} {k : Dk} (h : @Own ⟨x⟩ B w0 w D S wv k) (ho : OutOnly x w w') (hx : ∀ g, x = some g → Tag w g 5) (hb : ∀ g, x = some g → B ≤ g) : @Own instInhabitedOption B w0 w' D S wv k :=
  ⟨(h.1.out ho hx).unname, ho.below h.2.1 hb, h.2.2⟩

theorem Own.other [Inhabited (Option Nat)] {B : Nat} {w0 w w' : World} {D S D2 S2 : Nat} {wv wv2 : Value} {k k2 : Dk} (h2 : Own B w0 w D2 S2 wv2 k2) (h : DkAt w D S wv k) (m : Mv D S wv w w') (ha : Apt D S wv D2 S2 wv2) (hb : Below B w0 w') : Own B w0 w' D2 S2 wv2 k2 :=
  ⟨h2.1.other h m ha, hb, h2.2.2⟩

theorem OutOnly.kept {x : Option Nat} {w w' : World} (ho : OutOnly x w w') (hx : ∀ g, x = some g → Tag w g 5) {g : Nat} {e : TypeId} {L : List Value} (h : CB w e g L) (he : e ≠ 5) : CB w' e g L :=
  h.kept (ho.block g (fun h1 => h.tag.ne (hx g h1) he rfl))

/-- Three disks apart, and the caller's step. -/
structure All3 (B : Nat) (w0 w : World) (X : List Value) (DC SC D S D2 S2 : Nat) (wvc wv wv2 : Value) (kc kd ko : Dk) : Prop where
  x : CB w 31 B X
  c : Own B w0 w DC SC wvc kc
  d : Own B w0 w D S wv kd
  o : Own B w0 w D2 S2 wv2 ko
  cd : Apt DC SC wvc D S wv
  co : Apt DC SC wvc D2 S2 wv2
  ap : Apt D S wv D2 S2 wv2

theorem All3.fresh {B : Nat} {w0 w w' : World} {X : List Value} {DC SC D S D2 S2 : Nat} {wvc wv wv2 : Value} {kc kd ko : Dk} (h : All3 B w0 w X DC SC D S D2 S2 wvc wv wv2 kc kd ko) (hb : Below w.heap.size w w') : All3 B w0 w' X DC SC D S D2 S2 wvc wv wv2 kc kd ko :=
  ⟨h.x.fresh hb, h.c.fresh hb, h.d.fresh hb, h.o.fresh hb, h.cd, h.co, h.ap⟩

theorem All3.doC {B : Nat} {w0 w w' : World} {X : List Value} {DC SC D S D2 S2 : Nat} {wvc wvc' wv wv2 : Value} {kc kc' kd ko : Dk} (h : All3 B w0 w X DC SC D S D2 S2 wvc wv wv2 kc kd ko) (hd : DkAt w' DC SC wvc' kc') (hm : Mv DC SC wvc w w') (hg : Grew w wvc wvc') :
    All3 B w0 w' X DC SC D S D2 S2 wvc' wv wv2 kc' kd ko := by
  have hc := h.c.step hd hm hg
  exact ⟨h.x.kt (hm.kt h.c.1) (by decide), hc, h.d.other h.c.1 hm h.cd hc.2.1, h.o.other h.c.1 hm h.co hc.2.1, h.cd.grew hg h.d.1, h.co.grew hg h.o.1, h.ap⟩

theorem All3.doO {B : Nat} {w0 w w' : World} {X : List Value} {DC SC D S D2 S2 : Nat} {wvc wv wv2 wv2' : Value} {kc kd ko ko' : Dk} (h : All3 B w0 w X DC SC D S D2 S2 wvc wv wv2 kc kd ko) (hd : DkAt w' D2 S2 wv2' ko') (hm : Mv D2 S2 wv2 w w') (hg : Grew w wv2 wv2') :
    All3 B w0 w' X DC SC D S D2 S2 wvc wv wv2' kc kd ko' := by
  have ho := h.o.step hd hm hg
  exact ⟨h.x.kt (hm.kt h.o.1) (by decide), h.c.other h.o.1 hm h.co.swap ho.2.1, h.d.other h.o.1 hm h.ap.swap ho.2.1, ho, h.cd, (h.co.swap.grew hg h.c.1).swap, (h.ap.swap.grew hg h.d.1).swap⟩

theorem same_true (w : World) (D S D2 S2 : Nat) (wv wv2 : Value) (k k2 : Dk) (h : DkAt w D S wv k) (h2 : DkAt w D2 S2 wv2 k2) (e : k.now = k2.now) :
    Calls Try.prog 26 #[.pointer (some ⟨D, 0, none⟩), .pointer (some ⟨D2, 0, none⟩)] w fun e w' => e = .returned (.bool true) ∧ Below w.heap.size w w' := by
  have := same_any w D S D2 S2 wv wv2 k k2 h h2
  rw [decide_eq_true e] at this
  exact this

set_option maxRecDepth 100000 in
set_option maxHeartbeats 16000000 in
theorem apart_any (w : World) (v u : Value) (l : List Sp) (s : Sp) (h : Sps w v l) (hs : Rd w 1 u s.b.length (bvs s.b)) (hin : ∀ t ∈ l, InB t) (hsn : InB s) :
    Calls Try.prog 5 #[v, .agg (spC (s, u)).toArray] w fun e w' => e = .returned (.bool true) ∧ Below w.heap.size w w' := by
  obtain ⟨i0, hi0, hz0, hz1, hz2⟩ := info_parts infoU8
  have HU := Lib.hid (And.intro hi0 (And.intro hz0 (And.intro hz1 hz2)))
  clear hi0 hz0 hz1 hz2
  obtain ⟨a0, c0, rfl⟩ := h.slice
  obtain ⟨au, cu, rfl⟩ := hs.slice
  obtain ⟨N, hN⟩ : ∃ N, N = l.length := ⟨_, rfl⟩
  have HSP := Lib.hid h
  obtain ⟨us, hlu, hru, heu⟩ := h
  rw [← hN] at hlu hru
  have bN' : (N : Int) ≤ 9223372036854775807 := rd_small hru
  have HI := Lib.hid hru
  have HE := Lib.hid heu
  have HL := Lib.hid (And.intro hN hlu)
  have HS := Lib.hid hs
  have HIN := Lib.hid (And.intro hin hsn)
  obtain ⟨ms, hms⟩ : ∃ ms, ms = s.b.length := ⟨_, rfl⟩
  obtain ⟨X, hX⟩ : ∃ X, X = spC (s, .slice au s.b.length cu) := ⟨_, rfl⟩
  obtain ⟨w1, hw1, k1, b1, s1⟩ := alloc_cb w 31 X
  have HX : Hid (X = [.int .i64 s.kind, .int .i64 s.log, .int .i64 s.n, .int .i64 s.m, .int .u8 (s.x.toNat : Int), .slice au ms cu]) := Lib.hid (by rw [hX, hms]; rfl)
  have HMS := Lib.hid hms
  have H1 := Lib.hid hw1
  have B1 := Lib.hid b1
  have K1 := Lib.hid k1
  rw [← hN, ← hX]
  rw [← hN] at HSP
  clear hN hlu hru heu hs hin hsn hms hX hw1 k1 b1 s1
  go_enter Try.func5, Try.ntmps5
  go_wp2_with fail
  change Calls _ _ _ (w.alloc (.cells X.toArray 31)) _
  rw [← H1.out]
  refine (much_any w1 _ l (HSP.out.fresh B1.out)).mono ?_
  rintro e w2 ⟨⟨B, rfl, hB⟩, b2⟩
  have HBB := Lib.hid hB
  have K2 := Lib.hid (K1.out.fresh b2)
  have B2 := Lib.hid (B1.out.tr b2)
  clear hB b2 H1 B1 K1
  have hc5 : w2.cell? ⟨w.heap.size, 5, none⟩ = some (.slice au ms cu) := K2.out.cell 5 _ (by rw [HX.out]; rfl)
  cases B
  case true =>
    clear hc5
    go_wp2_with fail
    refine (known_any w2).mono ?_
    rintro e w3 ⟨rfl, b3⟩
    have BE := Lib.hid (B2.out.tr b3)
    clear b3
    go_wp2
    go_ret
    exact ⟨rfl, BE.out⟩
  case false =>
    by_cases hlong : 20000 < ms
    · have hl' : (20000 : Int) < (ms : Int) := by omega
      have hl'' : (decide (20000 < ms)) = true := by simpa using hlong
      go_wp2_with fail
      refine (known_any w2).mono ?_
      rintro e w3 ⟨rfl, b3⟩
      have BE := Lib.hid (B2.out.tr b3)
      clear b3
      go_wp2
      go_ret
      exact ⟨rfl, BE.out⟩
    · have hl' : ¬ (20000 : Int) < (ms : Int) := by omega
      have hl'' : (decide (20000 < ms)) = false := by simpa using hlong
      go_wp2_with fail
      refine (new_any w2).mono ?_
      rintro e w3 ⟨rfl, d3, b3, s3⟩
      obtain ⟨D, hD⟩ : ∃ D, D = w2.heap.size + 1 := ⟨_, rfl⟩
      obtain ⟨S, hS⟩ : ∃ S, S = w2.heap.size := ⟨_, rfl⟩
      rw [← hD, ← hS] at d3
      rw [← hD]
      have sz2 := B2.out.size
      have OD3 : Hid (Own w.heap.size w w3 D S (.slice none 0 0) newK) := Lib.hid ⟨d3, B2.out.tr b3, by omega, by omega, fun g hg => (by cases hg), Nat.le_refl _⟩
      have HDS := Lib.hid (And.intro hD (And.intro hS s3))
      clear hD hS s3
      go_wp2_with fail
      refine (new_any w3).mono ?_
      rintro e w4 ⟨rfl, d4, b4, s4⟩
      obtain ⟨hD, hS, s3⟩ := HDS.out
      obtain ⟨D2, hD2⟩ : ∃ D2, D2 = w3.heap.size + 1 := ⟨_, rfl⟩
      obtain ⟨S2, hS2⟩ : ∃ S2, S2 = w3.heap.size := ⟨_, rfl⟩
      rw [← hD2, ← hS2] at d4
      rw [← hD2]
      have OD4 := Lib.hid (OD3.out.fresh b4)
      have sz3 := b3.size
      have OE4 : Hid (Own w.heap.size w w4 D2 S2 (.slice none 0 0) newK) := Lib.hid ⟨d4, OD4.out.2.1, by omega, by omega, fun g hg => (by cases hg), Nat.le_refl _⟩
      have AP4 : Hid (Apt D S (.slice none 0 0) D2 S2 (.slice none 0 0)) := Lib.hid ⟨by omega, by omega, fun g hg => (by cases hg)⟩
      have K4 := Lib.hid ((K2.out.fresh b3).fresh b4)
      have HF : Hid (N ≤ 60 ∧ (∀ t ∈ l, t.b.length ≤ 20000) ∧ ms ≤ 20000) := Lib.hid (by have := HBB.out trivial; rw [HL.out.1]; exact ⟨this.1, this.2, by omega⟩)
      clear hc5 hl' hl'' hlong d3 b3 s3 hD hS sz2 OD3 d4 b4 s4 hD2 hS2 sz3 K2 B2 HBB
      go_wp2
      go_loopw [7] (fun v7 wr => CB wr 31 w.heap.size X ∧ ∃ (i : Nat) (wv wv2 : Value) (k : Dk), i ≤ N ∧ v7 = .int .i64 (i : Int) ∧ Own w.heap.size w wr D S wv k ∧ Own w.heap.size w wr D2 S2 wv2 k ∧ Apt D S wv D2 S2 wv2 ∧ Ok k ∧ k.wait.length ≤ i)
        (fun v _ => N - (RowKit.intOf v).toNat)
      case atStart => exact ⟨K4.out, 0, _, _, newK, Nat.zero_le _, rfl, OD4.out, OE4.out, AP4.out, newK_ok, Nat.le_refl _⟩
      case round =>
        obtain ⟨hk, i, wv, wv2, k, hi, rfl, od, oe, ap, ok, hwl⟩ := hrel
        have KX := Lib.hid hk
        have OD := Lib.hid od
        have OE := Lib.hid oe
        have AP := Lib.hid ap
        have OKK := Lib.hid (And.intro ok hwl)
        have BR : Hid (Below w.heap.size w wr) := Lib.hid od.2.1
        clear hk od oe ap ok hwl OD4 OE4 AP4 K4
        by_cases hlt : i < N
        · have ik : (i : Int) < (N : Int) := by omega
          obtain ⟨t, ht⟩ : ∃ z, l[i]? = some z := ⟨_, List.getElem?_eq_getElem (by rw [← HL.out.1]; exact hlt)⟩
          obtain ⟨ut, hu⟩ : ∃ z, us[i]? = some z := ⟨_, List.getElem?_eq_getElem (by rw [HL.out.2]; exact hlt)⟩
          obtain ⟨ad, c, he⟩ := rd_some HI.out (by omega)
          simp only [Value.slice.injEq, true_and] at he
          obtain ⟨rfl, rfl⟩ := he
          have hz : (l.zip us)[i]? = some (t, ut) := by rw [List.getElem?_zip_eq_some]; exact ⟨ht, hu⟩
          have hrx := HE.out i t ut ht hu
          obtain ⟨a1, c1, rfl⟩ := hrx.slice
          obtain ⟨m, hm⟩ : ∃ m, m = t.b.length := ⟨_, rfl⟩
          have HT : Hid (InB t ∧ t.b.length ≤ 20000) := Lib.hid ⟨HIN.out.1 t (List.mem_of_getElem? ht), HF.out.2.1 t (List.mem_of_getElem? ht)⟩
          rw [← hm] at hz hrx
          have HZ := Lib.hid hz
          have HRX := Lib.hid hrx
          have HM := Lib.hid (And.intro hm hlt)
          have bm : (m : Int) ≤ 20000 := by have := HT.out.2; omega
          clear ht hu hz hrx hm hlt hi
          go_wp2_with (with_reducible refine stopAt 41 ?_)
          refine Stop.go ?_
          refine wpList_load_agg rfl 31 (.tmp 40) rfl (ad.add (i * 6)) rfl [.int .i64 t.kind, .int .i64 t.log, .int .i64 t.n, .int .i64 t.m, .int .u8 (t.x.toNat : Int), .slice a1 m c1] _ ((HI.out.fresh BR.out).at (fun z _ => rfl) HZ.out) Try.underlying31 rfl (by exact infoSp) ?_
          go_wp2_with (with_reducible refine stopStore 31 ?_)
          refine Stop.go ?_
          obtain ⟨w1, hw1, k1, b1, s1⟩ := alloc_cb wr 31 [.int .i64 0, .int .i64 0, .int .i64 0, .int .i64 0, .int .u8 0, .slice none 0 0]
          change wpList _ _ _ _ _ (wr.alloc (.cells [.int .i64 0, .int .i64 0, .int .i64 0, .int .i64 0, .int .u8 0, .slice none 0 0].toArray 31))
          rw [← hw1]
          obtain ⟨gO, hgO⟩ : ∃ gO, gO = wr.heap.size := ⟨_, rfl⟩
          rw [← hgO] at k1 ⊢
          refine wpList_store_var rfl 31 (.tmp 8) (.tmp 41) rfl gO _ rfl _ [.int .i64 t.kind, .int .i64 t.log, .int .i64 t.n, .int .i64 t.m, .int .u8 (t.x.toNat : Int), .slice a1 m c1] rfl k1 rfl (by simp [Value.oneCell']) infoSp ?_
          intro wb kb ob
          have BB := Lib.hid (Below.only b1 ob (by omega))
          have KO : Hid (CB wb 31 gO [.int .i64 t.kind, .int .i64 t.log, .int .i64 t.n, .int .i64 t.m, .int .u8 (t.x.toNat : Int), .slice a1 m c1]) := Lib.hid kb
          have HGO := Lib.hid hgO
          clear hw1 k1 b1 s1 hgO kb ob
          have hc5 := KO.out.cell 5 _ rfl
          have RB : Hid (Rd wb 1 (.slice a1 m c1) m (bvs t.b)) := Lib.hid (HRX.out.fresh (BR.out.trans (BB.out.mono BR.out.size)))
          go_wp2_with (at_builtin; apply Stop.mk)
          refine Stop.go ?_
          refine wpList_append_rd _ rfl (.const (.slice none 0 0)) (.tmp 43) 29 rfl wb.heap.size 5 i0 (.int .u8 0) 1 1 Try.underlying29 HU.out.1 HU.out.2.1 HU.out.2.2.1 HU.out.2.2.2 rfl (by decide) (.slice none 0 0) 0 [] rfl (World.ownsRow_nil _ _ _ _) (.slice a1 m c1) m (bvs t.b) rfl RB.out (bvs_one _) (by unfold maxLen; omega) (by omega) (Nat.le_refl _) ?_
          intro v' w3 o' g' _ _
          rw [Nat.zero_add, List.nil_append, HM.out.1] at o'
          have b3 : Below wb.heap.size wb w3 := Below.grown (Below.refl _ wb) g' (Nat.le_refl _) (fun j hj => by cases hj)
          have BX3 := Lib.hid (BX.of_own o')
          have R3 := Lib.hid (RdU.of_own o' (noAv _))
          have OL : Hid (∀ g, v'.ownBlock = some g → wb.heap.size ≤ g) := Lib.hid (fun g hg => (o'.lt g hg).1)
          have KO3 := Lib.hid (KO.out.fresh b3)
          have B3 := Lib.hid (BB.out.trans (b3.mono BB.out.size))
          obtain ⟨a', c', hv'⟩ := R3.out.slice
          rw [← HM.out.1] at hv' BX3
          clear o' g' b3 KO hc5 RB
          subst hv'
          go_wp2_with (with_reducible refine stopStore 29 ?_)
          refine Stop.go ?_
          refine wpList_store_cell rfl 29 (.tmp 45) (.tmp 44) rfl gO 5 31 rfl _ (.slice a' m c') rfl rfl KO3.out (by simp) infoSl8 ?_
          intro w4 k4 o4
          have KO4 : Hid (CB w4 31 gO [.int .i64 t.kind, .int .i64 t.log, .int .i64 t.n, .int .i64 t.m, .int .u8 (t.x.toNat : Int), .slice a' m c']) := Lib.hid k4
          have kt4 : Kt [31] w3 w4 := Kt.only o4 KO3.out.tag (by simp)
          have B4 := Lib.hid (Below.only B3.out o4 (by have := HGO.out; omega))
          have BX4 := Lib.hid (BX3.out.kt kt4 (by decide))
          have R4 := Lib.hid (R3.out.kt kt4 (by decide))
          clear k4 o4 kt4 KO3 B3 BX3 R3
          obtain ⟨x, hx⟩ : ∃ x, x = (Value.slice a' m c').ownBlock := ⟨_, rfl⟩
          have XL : Hid (∀ g, x = some g → wr.heap.size ≤ g) := Lib.hid (fun g hg => Nat.le_trans BB.out.size (OL.out g (by rw [← hx]; exact hg)))
          have XT : Hid (∀ g, x = some g → Tag w4 g 5) := Lib.hid (fun g hg => (R4.out.2 g (by rw [← hx]; exact hg)).1)
          have XV : Hid (@Av ⟨x⟩ w4.heap.size) := Lib.hid (fun g hg => (XT.out g hg).lt)
          have OD4 : Hid (@Own ⟨x⟩ w.heap.size w w4 D S wv k) := Lib.hid (@Own.fresh ⟨x⟩ _ _ _ _ _ _ _ _ (OD.out.named x XL.out) B4.out)
          have OE4 : Hid (@Own ⟨x⟩ w.heap.size w w4 D2 S2 wv2 k) := Lib.hid (@Own.fresh ⟨x⟩ _ _ _ _ _ _ _ _ (OE.out.named x XL.out) B4.out)
          have KX4 := Lib.hid (KX.out.fresh B4.out)
          have NEX : Hid (w.heap.size < wr.heap.size) := Lib.hid KX.out.lt
          have HXX := Lib.hid hx
          clear hx OL OD OE KX BB
          go_wp2_with (with_reducible refine stopAt 47 ?_)
          refine Stop.go ?_
          refine wpList_load_agg rfl 31 (.tmp 8) rfl ⟨gO, 0, none⟩ rfl [.int .i64 t.kind, .int .i64 t.log, .int .i64 t.n, .int .i64 t.m, .int .u8 (t.x.toNat : Int), .slice a' m c'] _ (At.block KO4.out).load Try.underlying31 rfl (by exact infoSp) ?_
          go_wp2_with fail
          refine (@do_any ⟨x⟩ w4 D S wv k t (.slice a' m c') OD4.out.1 OKK.out.1 (by have h1 := OKK.out.2; have h2 := HM.out.2; have h3 := HF.out.1; omega) R4.out.1 (by have := HT.out.2; omega) HT.out.1.1.1 HT.out.1.1.2 HT.out.1.2.1 HT.out.1.2.2 XV.out).mono ?_
          rintro e w5 ⟨rfl, wv5, d5, m5, g5⟩
          have OD5 : Hid (@Own ⟨x⟩ w.heap.size w w5 D S wv5 (doK k t).2) := Lib.hid (@Own.step ⟨x⟩ _ _ _ _ _ _ _ _ _ _ OD4.out d5 m5 g5)
          have OE5 : Hid (@Own ⟨x⟩ w.heap.size w w5 D2 S2 wv2 k) := Lib.hid (@Own.other ⟨x⟩ _ _ _ _ _ _ _ _ _ _ _ _ OE4.out OD4.out.1 m5 AP.out OD5.out.2.1)
          have AP5 : Hid (Apt D S wv5 D2 S2 wv2) := Lib.hid (@Apt.grew ⟨x⟩ _ _ _ _ _ _ _ _ _ AP.out g5 OE4.out.1)
          have kt5 := @Mv.kt ⟨x⟩ _ _ _ _ _ _ m5 OD4.out.1
          have KO5 := Lib.hid (KO4.out.kt kt5 (by decide))
          have KX5 := Lib.hid (KX4.out.kt kt5 (by decide))
          have BX5 := Lib.hid (BX4.out.kt kt5 (by decide))
          have XT5 : Hid (∀ g, x = some g → Tag w5 g 5) := Lib.hid (fun g hg => (XT.out g hg).kt kt5 (by decide))
          have XV5 : Hid (@Av ⟨x⟩ w5.heap.size) := Lib.hid (fun g hg => (XT5.out g hg).lt)
          clear d5 m5 g5 kt5 OD4 OE4 AP KO4 KX4 BX4 XT XV R4
          go_wp2_with (with_reducible refine stopAt 53 ?_)
          refine Stop.go ?_
          refine wpList_load_agg rfl 31 (.tmp 52) rfl (ad.add (i * 6)) rfl [.int .i64 t.kind, .int .i64 t.log, .int .i64 t.n, .int .i64 t.m, .int .u8 (t.x.toNat : Int), .slice a1 m c1] _ ((HI.out.fresh OD5.out.2.1).at (fun z _ => rfl) HZ.out) Try.underlying31 rfl (by exact infoSp) ?_
          go_wp2_with fail
          refine (@do_any ⟨x⟩ w5 D2 S2 wv2 k t (.slice a1 m c1) OE5.out.1 OKK.out.1 (by have h1 := OKK.out.2; have h2 := HM.out.2; have h3 := HF.out.1; omega) (by have := HRX.out.fresh OD5.out.2.1; rw [HM.out.1] at this ⊢; exact this) (by have := HT.out.2; omega) HT.out.1.1.1 HT.out.1.1.2 HT.out.1.2.1 HT.out.1.2.2 XV5.out).mono ?_
          rintro e w6 ⟨rfl, wv6, d6, m6, g6⟩
          have OE6 : Hid (@Own ⟨x⟩ w.heap.size w w6 D2 S2 wv6 (doK k t).2) := Lib.hid (@Own.step ⟨x⟩ _ _ _ _ _ _ _ _ _ _ OE5.out d6 m6 g6)
          have OD6 : Hid (@Own ⟨x⟩ w.heap.size w w6 D S wv5 (doK k t).2) := Lib.hid (@Own.other ⟨x⟩ _ _ _ _ _ _ _ _ _ _ _ _ OD5.out OE5.out.1 m6 AP5.out.swap OE6.out.2.1)
          have AP6 : Hid (Apt D S wv5 D2 S2 wv6) := Lib.hid (@Apt.grew ⟨x⟩ _ _ _ _ _ _ _ _ _ AP5.out.swap g6 OD5.out.1).swap
          have kt6 := @Mv.kt ⟨x⟩ _ _ _ _ _ _ m6 OE5.out.1
          have KO6 := Lib.hid (KO5.out.kt kt6 (by decide))
          have KX6 := Lib.hid (KX5.out.kt kt6 (by decide))
          have BX6 := Lib.hid (BX5.out.kt kt6 (by decide))
          have XT6 : Hid (∀ g, x = some g → Tag w6 g 5) := Lib.hid (fun g hg => (XT5.out g hg).kt kt6 (by decide))
          have OK6 : Hid (Ok (doK k t).2 ∧ (doK k t).2.wait.length ≤ i + 1) := Lib.hid ⟨OKK.out.1.do t (@DkAt.idx ⟨x⟩ _ _ _ _ _ OD5.out.1 |> fun _ => @DkAt.idx ⟨x⟩ _ _ _ _ _ OE5.out.1) HT.out.1.1.2, by have h1 := doK_wait k t; have h2 := OKK.out.2; omega⟩
          clear d6 m6 g6 kt6 OD5 OE5 AP5 KO5 KX5 BX5 XT5 XV5
          go_wp2
          go_loopw [9] (fun v9 wr => OutOnly x w6 wr ∧ BX wr (.slice a' m c') m ∧ ∃ j : Nat, j ≤ m ∧ v9 = .int .i64 (j : Int))
            (fun v _ => m - (RowKit.intOf v).toNat)
          case atStart => exact ⟨OutOnly.refl _ _, BX6.out, 0, Nat.zero_le _, rfl⟩
          case round =>
            obtain ⟨ho, hbx, j, hj, rfl⟩ := hrel
            have HO := Lib.hid ho
            have HBX := Lib.hid hbx
            have KOz := ho.kept XT6.out KO6.out (by decide)
            have hc5 := KOz.cell 5 _ rfl
            clear ho hbx KOz
            by_cases hjm : j < m
            · have ij : (j : Int) < (m : Int) := by omega
              obtain ⟨g, c, cur, hg, hmc, hcb, hl, hq⟩ := HBX.out (by omega)
              simp only [Value.slice.injEq, true_and] at hg
              obtain ⟨rfl, rfl⟩ := hg
              obtain ⟨y, hy⟩ := hq j hjm
              have hcy : wr.cell? ⟨g, j, none⟩ = some (.int .u8 (y.toNat : Int)) := hcb.cell j _ hy
              have HC := Lib.hid (And.intro hcb (And.intro hl (And.intro hq (And.intro hmc hjm))))
              clear hmc hcb hl hq hy hj hjm
              go_wp2_with (with_reducible refine stopStore 5 ?_)
              refine Stop.go ?_
              refine wpList_store_cell rfl 5 (.tmp 68) (.tmp 67) rfl g j 5 rfl cur (.int .u8 (((y.toNat : Int) + 1) % 256)) rfl rfl HC.out.1 (by have h1 := HC.out.2.1; have h2 := HC.out.2.2.2.2; omega) infoU8' ?_
              intro wy ky oy
              rw [show (Value.int .u8 (((y.toNat : Int) + 1) % 256)) = bv (y + 1) from by rw [inc_u8]; rfl] at ky
              have HOy := Lib.hid (HO.out.only oy HXX.out)
              have HBy := Lib.hid (BX.set HC.out.2.2.2.1 ky HC.out.2.1 HC.out.2.2.1)
              clear ky oy hcy hc5
              go_wp2
              go_roundw
              case rel => exact ⟨HOy.out, HBy.out, j + 1, HC.out.2.2.2.2, by go_num⟩
              case measure => have := HC.out.2.2.2.2; simp only [RowKit.intOf]; omega
            · have ij : ¬ ((j : Int) < (m : Int)) := by omega
              obtain rfl : j = m := by omega
              clear hj hjm
              go_wp2
              go_roundw
              case rel =>
                refine ⟨HO.out.kept XT6.out KX6.out (by decide), i + 1, wv5, wv6, (doK k t).2, HM.out.2, by go_num, OD6.out.back HO.out XT6.out (fun g hg => Nat.le_trans (Nat.le_of_lt NEX.out) (XL.out g hg)), OE6.out.back HO.out XT6.out (fun g hg => Nat.le_trans (Nat.le_of_lt NEX.out) (XL.out g hg)), AP6.out, OK6.out.1, OK6.out.2⟩
              case measure => have := HM.out.2; simp only [RowKit.intOf]; omega
        · have ik : ¬ ((i : Int) < (N : Int)) := by omega
          obtain rfl : i = N := by omega
          clear hi hlt
          have hgl : (k.now.getD 0 []).length ≤ 16777216 := OKK.out.1.get 0
          have RD := Lib.hid (read_any wr D S wv k 0 OD.out.1 (by decide) (by omega))
          obtain ⟨rb, hrb⟩ : ∃ rb, rb = (k.now.getD 0 []) := ⟨_, rfl⟩
          rw [← hrb] at RD hgl
          obtain ⟨m, hm⟩ : ∃ m, m = rb.length := ⟨_, rfl⟩
          have HM := Lib.hid hm
          have bm : (m : Int) ≤ 16777216 := by omega
          clear hgl hrb hm
          go_wp2_with fail
          refine RD.out.mono ?_
          rintro e w3 ⟨v3, rfl, o3, b3⟩
          have B3 := Lib.hid b3
          have BX3 := Lib.hid (BX.of_own o3)
          have R3 := Lib.hid (RdU.of_own o3 (noAv _))
          have OL : Hid (∀ g, v3.ownBlock = some g → wr.heap.size ≤ g) := Lib.hid (fun g hg => (o3.lt g hg).1)
          obtain ⟨a', c', hv'⟩ := R3.out.slice
          rw [← HM.out] at hv' BX3
          subst hv'
          obtain ⟨x, hx⟩ : ∃ x, x = (Value.slice a' m c').ownBlock := ⟨_, rfl⟩
          have XL : Hid (∀ g, x = some g → wr.heap.size ≤ g) := Lib.hid (fun g hg => OL.out g (by rw [← hx]; exact hg))
          have HXX := Lib.hid hx
          obtain ⟨wo, hwo⟩ : ∃ wo, wo = wr := ⟨_, rfl⟩
          rw [← hwo] at OD OE KX B3 XL BR
          clear hx OL o3 b3 RD R3 hwo
          go_wp2
          go_loopw [12] (fun v12 wr => OutOnly x w3 wr ∧ BX wr (.slice a' m c') m ∧ ∃ j : Nat, j ≤ m ∧ v12 = .int .i64 (j : Int))
            (fun v _ => m - (RowKit.intOf v).toNat)
          case atStart => exact ⟨OutOnly.refl _ _, BX3.out, 0, Nat.zero_le _, rfl⟩
          case round =>
            obtain ⟨ho, hbx, j, hj, rfl⟩ := hrel
            have HO := Lib.hid ho
            have HBX := Lib.hid hbx
            clear ho hbx
            by_cases hjm : j < m
            · have ij : (j : Int) < (m : Int) := by omega
              obtain ⟨g, c, cur, hg, hmc, hcb, hl, hq⟩ := HBX.out (by omega)
              simp only [Value.slice.injEq, true_and] at hg
              obtain ⟨rfl, rfl⟩ := hg
              obtain ⟨y, hy⟩ := hq j hjm
              have hcy : wr.cell? ⟨g, j, none⟩ = some (.int .u8 (y.toNat : Int)) := hcb.cell j _ hy
              have HC := Lib.hid (And.intro hcb (And.intro hl (And.intro hq (And.intro hmc hjm))))
              clear hmc hcb hl hq hy hj hjm
              go_wp2_with (with_reducible refine stopStore 5 ?_)
              refine Stop.go ?_
              refine wpList_store_cell rfl 5 (.tmp 85) (.tmp 84) rfl g j 5 rfl cur (.int .u8 (((y.toNat : Int) + 1) % 256)) rfl rfl HC.out.1 (by have h1 := HC.out.2.1; have h2 := HC.out.2.2.2.2; omega) infoU8' ?_
              intro wy ky oy
              rw [show (Value.int .u8 (((y.toNat : Int) + 1) % 256)) = bv (y + 1) from by rw [inc_u8]; rfl] at ky
              have HOy := Lib.hid (HO.out.only oy HXX.out)
              have HBy := Lib.hid (BX.set HC.out.2.2.2.1 ky HC.out.2.1 HC.out.2.2.1)
              clear ky oy hcy
              go_wp2
              go_roundw
              case rel => exact ⟨HOy.out, HBy.out, j + 1, HC.out.2.2.2.2, by go_num⟩
              case measure => have := HC.out.2.2.2.2; simp only [RowKit.intOf]; omega
            · have ij : ¬ ((j : Int) < (m : Int)) := by omega
              obtain rfl : j = m := by omega
              clear hj hjm
              have BW : Hid (Below wo.heap.size wo wr) := Lib.hid (HO.out.below B3.out XL.out)
              have OD5 := Lib.hid (OD.out.fresh BW.out)
              have OE5 := Lib.hid (OE.out.fresh BW.out)
              have KX5 := Lib.hid (KX.out.fresh BW.out)
              have W60 : Hid (k.wait.length ≤ 60) := Lib.hid (by have h1 := OKK.out.2; have h2 := HF.out.1; omega)
              clear HO HBX BX3 XL B3 HXX OD OE KX
              go_wp2_with fail
              refine (copy_any wr D S wv k OD5.out.1 OKK.out.1 (by have := W60.out; omega) (noAv _)).mono ?_
              rintro e w6 ⟨wvc, rfl, oc⟩
              have bc := oc.2.1
              obtain ⟨vsd, nsd, cssd, hdd⟩ := OD5.out.1
              obtain ⟨vse, nse, csse, hde⟩ := OE5.out.1
              obtain ⟨DC, hDC⟩ : ∃ DC, DC = wr.heap.size := ⟨_, rfl⟩
              obtain ⟨SC, hSC⟩ : ∃ SC, SC = wr.heap.size + 1 := ⟨_, rfl⟩
              have wvg := oc.2.2.2.2.1
              have ocd := oc.1
              rw [← hSC, ← hDC] at ocd
              have lw := BR.out.size
              have lo := BW.out.size
              have A6 : Hid (All3 w.heap.size w w6 X DC SC D S D2 S2 wvc wv wv2 k k k) := Lib.hid ⟨KX5.out.fresh bc, ⟨ocd, (OD5.out.fresh bc).2.1, by omega, by omega, fun g hg => Nat.le_trans (by omega) (wvg g hg), Nat.le_refl _⟩, OD5.out.fresh bc, OE5.out.fresh bc,
                ⟨by have := hdd.cd.lt; omega, by have := hdd.cs.lt; omega, fun g hg e => by have h1 := (hdd.wt.tag g hg).lt; have h2 := wvg g e; omega⟩,
                ⟨by have := hde.cd.lt; omega, by have := hde.cs.lt; omega, fun g hg e => by have h1 := (hde.wt.tag g hg).lt; have h2 := wvg g e; omega⟩, AP.out⟩
              rw [← hDC]
              clear hDC hSC wvg ocd lw lo hdd hde oc bc OD5 OE5 KX5 AP BW BR
              have ZK : Hid (Ok (doK k s).2 ∧ (doK k s).2.wait.length ≤ 61) := Lib.hid ⟨OKK.out.1.do s A6.out.c.1.idx HIN.out.2.1.2, by have h1 := doK_wait k s; have h2 := W60.out; omega⟩
              go_wp2_with fail
              refine (same_true w6 _ _ _ _ _ _ _ _ A6.out.c.1 A6.out.o.1 rfl).mono ?_
              rintro e w7 ⟨rfl, b7⟩
              have A7 := Lib.hid (A6.out.fresh b7)
              clear b7 A6
              go_wp2_with fail
              refine (same_true w7 _ _ _ _ _ _ _ _ A7.out.o.1 A7.out.d.1 rfl).mono ?_
              rintro e w8 ⟨rfl, b8⟩
              have A8 := Lib.hid (A7.out.fresh b8)
              clear b8 A7
              go_wp2_with fail
              refine (waiting_any w8 _ _ _ k A8.out.c.1).mono ?_
              rintro e w8 ⟨rfl, rfl⟩
              go_wp2_with fail
              refine (waiting_any w8 _ _ _ k A8.out.o.1).mono ?_
              rintro e w8 ⟨rfl, rfl⟩
              go_wp2_with fail
              refine (dead_any w8 _ _ _ k A8.out.c.1).mono ?_
              rintro e w8 ⟨rfl, rfl⟩
              go_wp2_with fail
              refine (dead_any w8 _ _ _ k A8.out.o.1).mono ?_
              rintro e w8 ⟨rfl, rfl⟩
              have RS : Hid (∀ w', Below w.heap.size w w' → Rd w' 1 (.slice au ms cu) s.b.length (bvs s.b)) := Lib.hid (fun w' hb => by have := HS.out.fresh hb; rw [HMS.out]; exact this)
              go_wp2_with (with_reducible refine stopAt 117 ?_)
              refine Stop.go ?_
              refine wpList_load_agg rfl 31 (.tmp 3) rfl ⟨w.heap.size, 0, none⟩ rfl [.int .i64 s.kind, .int .i64 s.log, .int .i64 s.n, .int .i64 s.m, .int .u8 (s.x.toNat : Int), .slice au ms cu] _ (by have := A8.out.x; rw [HX.out] at this; exact (At.block this).load) Try.underlying31 rfl (by exact infoSp) ?_
              go_wp2_with fail
              refine (do_any w8 DC SC wvc k s (.slice au ms cu) A8.out.c.1 OKK.out.1 (by have := W60.out; omega) (RS.out w8 A8.out.c.2.1) (by rw [← HMS.out]; have := HF.out.2.2; omega) HIN.out.2.1.1 HIN.out.2.1.2 HIN.out.2.2.1 HIN.out.2.2.2 (noAv _)).mono ?_
              rintro e w9 ⟨rfl, wvc9, d9, m9, g9⟩
              have A9 := Lib.hid (A8.out.doC d9 m9 g9)
              clear d9 m9 g9 A8
              go_wp2_with fail
              refine (same_true w9 _ _ _ _ _ _ _ _ A9.out.d.1 A9.out.o.1 rfl).mono ?_
              rintro e w10 ⟨rfl, b10⟩
              have A10 := Lib.hid (A9.out.fresh b10)
              clear b10 A9
              obtain ⟨r, hr⟩ : ∃ r, r = (doK k s).1 := ⟨_, rfl⟩
              have DO := Lib.hid (do_any w10 D2 S2 wv2 k s (.slice au ms cu) A10.out.o.1 OKK.out.1 (by have := W60.out; omega) (RS.out w10 A10.out.c.2.1) (by rw [← HMS.out]; have := HF.out.2.2; omega) HIN.out.2.1.1 HIN.out.2.1.2 HIN.out.2.2.1 HIN.out.2.2.2 (noAv _))
              go_wp2_with (with_reducible refine stopAt 124 ?_)
              refine Stop.go ?_
              refine wpList_load_agg rfl 31 (.tmp 3) rfl ⟨w.heap.size, 0, none⟩ rfl [.int .i64 s.kind, .int .i64 s.log, .int .i64 s.n, .int .i64 s.m, .int .u8 (s.x.toNat : Int), .slice au ms cu] _ (by have := A10.out.x; rw [HX.out] at this; exact (At.block this).load) Try.underlying31 rfl (by exact infoSp) ?_
              go_wp2_with fail
              refine DO.out.mono ?_
              rintro e w11 ⟨rfl, wvo11, d11, m11, g11⟩
              have A11 := Lib.hid (A10.out.doO d11 m11 g11)
              clear d11 m11 g11 A10 DO hr
              go_wp2_with fail
              refine (same_true w11 _ _ _ _ _ _ _ _ A11.out.c.1 A11.out.o.1 rfl).mono ?_
              rintro e w12 ⟨rfl, b12⟩
              have A12 := Lib.hid (A11.out.fresh b12)
              clear b12 A11
              go_wp2_with fail
              refine (crash_any w12 _ _ _ _ A12.out.c.1 ZK.out.1 (by have := ZK.out.2; omega) 1 1 (by decide) (by decide) (by decide) (by decide) (noAv _)).mono ?_
              rintro e w13 ⟨rfl, wvc13, d13, m13, g13⟩
              have A13 := Lib.hid (A12.out.doC d13 m13 g13)
              clear d13 m13 g13 A12
              go_wp2_with fail
              refine (num_any w13 0).mono ?_
              rintro e w13 ⟨rfl, rfl⟩
              go_wp2_with fail
              refine (crash_any w13 _ _ _ _ A13.out.o.1 ZK.out.1 (by have := ZK.out.2; omega) 1 1 (by decide) (by decide) (by decide) (by decide) (noAv _)).mono ?_
              rintro e w14 ⟨rfl, wvo14, d14, m14, g14⟩
              have A14 := Lib.hid (A13.out.doO d14 m14 g14)
              clear d14 m14 g14 A13
              go_wp2_with fail
              refine (num_any w14 0).mono ?_
              rintro e w14 ⟨rfl, rfl⟩
              go_wp2_with fail
              refine (same_true w14 _ _ _ _ _ _ _ _ A14.out.c.1 A14.out.o.1 rfl).mono ?_
              rintro e w15 ⟨rfl, b15⟩
              have A15 := Lib.hid (A14.out.fresh b15)
              clear b15 A14
              go_wp2_with fail
              refine (known_any w15).mono ?_
              rintro e w16 ⟨rfl, b16⟩
              have BE := Lib.hid (A15.out.fresh b16).c.2.1
              clear b16 A15
              go_wp2
              go_ret
              exact ⟨rfl, BE.out⟩

end Go.Proofs.Ytbbbgpdhdlknjaa
