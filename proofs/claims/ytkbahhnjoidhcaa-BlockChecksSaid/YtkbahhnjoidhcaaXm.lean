/- tx.Copy: the walk. -/
import Derived.Test.YtkbahhnjoidhcaaXl
namespace Go.Proofs.Ytkbahhnjoidhcaa
set_option linter.unusedVariables false
set_option linter.unusedSimpArgs false
open Go.RowKit

theorem flat_one {α : Type} (f : α → List Value) (l : List α) (h : ∀ x ∈ l, ∀ c ∈ f x, c.oneCell' = true) : ∀ c ∈ l.flatMap f, c.oneCell' = true := by
  intro c hc
  obtain ⟨x, hx, hcx⟩ := List.mem_flatMap.1 hc
  exact h x hx c hcx

theorem outC_one (x : OutD) : ∀ c ∈ outC x, c.oneCell' = true := by
  intro c hc
  simp only [outC, List.mem_cons] at hc
  rcases hc with rfl | hc
  · rfl
  · exact bvs_one _ c hc

/-- How many, how long: not too many, not too long. -/
def TxFit (x : TxD) : Prop := x.ins.length ≤ 100000000 ∧ x.outs.length ≤ 100000000 ∧ ∀ i ∈ x.ins, i.wit.length ≤ 100000000

/-- Inputs of one's own, of which the first k have witnesses of one's own. -/
def InsK (w : World) (base : Nat) (F : Nat → Prop) (v : Value) (l : List InD) (us0 : List Value) (k : Nat) : Prop :=
  ∃ us : List Value, us.length = l.length ∧ w.ownsRow base 44 34 v l.length ((l.zip us).flatMap inC) ∧ ∀ (i : Nat) (x : InD) (u : Value), l[i]? = some x → us[i]? = some u → (i < k → RdF (fun b => base ≤ b) w 1 u x.wit.length (bvs x.wit)) ∧ (k ≤ i → us0[i]? = some u)

set_option maxRecDepth 100000 in
set_option maxHeartbeats 4000000 in
theorem txcopy_any (F : Nat → Prop) (w : World) (x : TxD) (u : Value × Value) (hu : Ins F w u.1 x.ins ∧ Outs F w u.2 x.outs) (hfit : TxFit x) :
    Calls Try.prog 24 #[.agg (txC (x, u)).toArray] w fun e w' => ∃ v : Value × Value, e = .returned (.agg (txC (x, v)).toArray) ∧ Ins (fun k => w.heap.size ≤ k ∧ k < w'.heap.size) w' v.1 x.ins ∧ Outs (fun k => w.heap.size ≤ k ∧ k < w'.heap.size) w' v.2 x.outs ∧ Below w.heap.size w w' := by
  obtain ⟨u1, u2⟩ := u
  change Calls _ _ #[.agg #[u1, u2, .int .u64 x.nonce]] _ _
  obtain ⟨a0, c0, he⟩ := hu.1.slice
  change u1 = _ at he
  subst he
  obtain ⟨a2, c2, he⟩ := hu.2.slice
  change u2 = _ at he
  subst he
  obtain ⟨N, hN⟩ : ∃ N, N = x.ins.length := ⟨_, rfl⟩
  obtain ⟨K, hK⟩ : ∃ K, K = x.outs.length := ⟨_, rfl⟩
  rw [← hN, ← hK] at hu
  rw [← hN, ← hK]
  obtain ⟨⟨us, hlu, hoku, hru, heu⟩, hou, hrou⟩ := hu
  rw [← hN] at hlu hru
  rw [← hK] at hrou
  change RdF F w 34 (.slice a0 N c0) N _ at hru
  change RdF F w 33 (.slice a2 K c2) K _ at hrou
  have bN' : (N : Int) ≤ 9223372036854775807 := rd_small' hru.1
  have HI := Lib.hid (And.intro hru.1 hrou.1)
  have HE := Lib.hid heu
  have hone : ∀ (i : Nat) (xi : InD) (ui : Value), x.ins[i]? = some xi → us[i]? = some ui → ui.oneCell' = true := fun i xi ui h1 h2 => by
    obtain ⟨_, _, e⟩ := (heu i xi ui h1 h2).1.slice
    rw [e]
    rfl
  have HO1 := Lib.hid hone
  have HONE : Hid ((∀ c ∈ (x.ins.zip us).flatMap inC, c.oneCell' = true) ∧ ∀ c ∈ x.outs.flatMap outC, c.oneCell' = true) := Lib.hid ⟨flat_one inC _ (fun z hz => by
    obtain ⟨i, hi⟩ := List.getElem?_of_mem hz
    obtain ⟨z1, z2⟩ := z
    rw [List.getElem?_zip_eq_some] at hi
    exact inC_one z1 z2 (hone i z1 z2 hi.1 hi.2)), flat_one outC _ (fun z _ => outC_one z)⟩
  have HBD : Hid (N ≤ 100000000 ∧ K ≤ 100000000 ∧ ∀ i ∈ x.ins, i.wit.length ≤ 100000000) := Lib.hid ⟨by rw [hN]; exact hfit.1, by rw [hK]; exact hfit.2.1, hfit.2.2⟩
  have HL := Lib.hid (And.intro hN (And.intro hK hlu))
  have HOK := Lib.hid (And.intro hoku hou)
  clear hlu hoku hru heu hou hrou hone hN hK hfit
  go_enter Try.func24, Try.ntmps24
  go_wp2_with fail
  obtain ⟨w1, h1, k1, b1, s1⟩ := alloc_cb w 37 [.slice a0 N c0, .slice a2 K c2, .int .u64 x.nonce]
  obtain ⟨w2, h2, k2, b2, s2⟩ := alloc_cb w1 37 [.slice none 0 0, .slice none 0 0, .int .u64 0]
  change Code.wp _ _ _ _ ((w.alloc (.cells [.slice a0 N c0, .slice a2 K c2, .int .u64 x.nonce].toArray 37)).alloc (.cells [.slice none 0 0, .slice none 0 0, .int .u64 0].toArray 37))
  rw [← h1, ← h2]
  rw [s1] at s2 k2
  have b2' := (b1.tr b2).drew
  have SS : Hid (CB w2.drew 37 w.heap.size [.slice a0 N c0, .slice a2 K c2, .int .u64 x.nonce]) := Lib.hid (k1.fresh b2.drew)
  have GG : Hid (CB w2.drew 37 (w.heap.size + 1) [.slice none 0 0, .slice none 0 0, .int .u64 0]) := Lib.hid k2
  have BB := Lib.hid b2'
  clear h1 h2 k1 k2 b1 b2 b2' s1 s2
  have Z0 : Hid (w.heap.size + 1 < w2.drew.heap.size) := Lib.hid GG.out.lt
  refine ord_share6 (F := fun (wz : World) (G3 : Nat) (ai : Option Addr) (ci : Nat) (av : Option Addr) (cv : Nat) => CB wz 37 w.heap.size [.slice a0 N c0, .slice a2 K c2, .int .u64 x.nonce] ∧ CB wz 37 (w.heap.size + 1) [.slice none 0 0, .slice none 0 0, .int .u64 0] ∧ CB wz 37 G3 [.slice none 0 0, .slice none 0 0, .int .u64 0] ∧ w.heap.size + 1 < G3 ∧ wz.ownsRow w.heap.size 44 34 (.slice ai N ci) N ((x.ins.zip us).flatMap inC) ∧ wz.ownsRow w.heap.size 46 33 (.slice av K cv) K (x.outs.flatMap outC) ∧ (∀ k, (Value.slice ai N ci).ownBlock = some k → w.heap.size + 1 < k ∧ k ≠ G3) ∧ (∀ k, (Value.slice av K cv).ownBlock = some k → w.heap.size + 1 < k ∧ k ≠ G3 ∧ (Value.slice ai N ci).ownBlock ≠ some k) ∧ Below w.heap.size w wz) ?pshare ?tree ?rest
  case tree =>
    intro HREST
    have HREST := Lib.hid HREST
    refine pl_start 11 rfl (fun w' => CB w' 37 w.heap.size [.slice a0 N c0, .slice a2 K c2, .int .u64 x.nonce]) (by kernel_rfl) ?_
    obtain ⟨w3, hw3⟩ : ∃ w3, w3 = w2.drew := ⟨_, rfl⟩
    rw [← hw3] at SS GG BB Z0 ⊢
    clear hw3
    refine pl_take (i := 0) 6 rfl rfl rfl (by kernel_rfl) (by kernel_rfl) (by kernel_rfl) (by simp [Act.put]) SS.out ?_
    apply Exists.intro
    refine And.intro (fun w' hS' => ?_) ?_
    · go_wp2
      first
        | exact ⟨trivial, rfl⟩
        | exact rfl
    refine pl_take (i := 1) 7 rfl rfl rfl (by kernel_rfl) (by kernel_rfl) (by kernel_rfl) (by simp [Act.put]) SS.out ?_
    apply Exists.intro
    refine And.intro (fun w' hS' => ?_) ?_
    · have hc := hS'.cell 0 _ rfl
      clear hS'
      go_wp2
      exact ⟨trivial, rfl⟩
    refine pl_take (i := 3) 9 rfl rfl rfl (by kernel_rfl) (by kernel_rfl) (by kernel_rfl) (by simp [Act.put]) SS.out ?_
    apply Exists.intro
    refine And.intro (fun w' hS' => ?_) ?_
    · go_wp2
      first
        | exact ⟨trivial, rfl⟩
        | exact rfl
    refine pl_take (i := 4) 10 rfl rfl rfl (by kernel_rfl) (by kernel_rfl) (by kernel_rfl) (by simp [Act.put]) SS.out ?_
    apply Exists.intro
    refine And.intro (fun w' hS' => ?_) ?_
    · have hc := hS'.cell 1 _ rfl
      clear hS'
      go_wp2
      exact ⟨trivial, rfl⟩
    refine pl_take (i := 6) 12 rfl rfl rfl (by kernel_rfl) (by kernel_rfl) (by kernel_rfl) (by simp [Act.put]) SS.out ?_
    apply Exists.intro
    refine And.intro (fun w' hS' => ?_) ?_
    · go_wp2
      first
        | exact ⟨trivial, rfl⟩
        | exact rfl
    refine pl_take (i := 7) 13 rfl rfl rfl (by kernel_rfl) (by kernel_rfl) (by kernel_rfl) (by simp [Act.put]) SS.out ?_
    apply Exists.intro
    refine And.intro (fun w' hS' => ?_) ?_
    · have hc := hS'.cell 2 _ rfl
      clear hS'
      go_wp2
      exact ⟨trivial, rfl⟩
    refine ord_two (i := 2) (j := 9) rfl rfl (by kernel_rfl) ?_ ?_
    · go_wp2_with fail
      refine (clone_input w3 (.slice a0 N c0) N ((x.ins.zip us).flatMap inC) (HI.out.1.fresh BB.out) HONE.out.1 HBD.out.1).mono ?_
      rintro e u1 ⟨vi, rfl, oi, b⟩
      obtain ⟨ai, ci, rfl⟩ := (Rd.of_own oi).slice
      have DI : Hid (∀ k, (Value.slice ai N ci).ownBlock = some k → w3.heap.size ≤ k ∧ k < u1.heap.size) := Lib.hid (fun k hk => oi.lt k hk)
      have ZI : Hid (w3.heap.size ≤ u1.heap.size) := Lib.hid b.size
      have LX : w.heap.size ≤ w3.heap.size := BB.out.size
      replace SS := Lib.hid (SS.out.fresh b)
      replace GG := Lib.hid (GG.out.fresh b)
      replace BB := Lib.hid (BB.out.tr b)
      skip
      have OI := Lib.hid (own_lower' oi LX)
      clear LX oi b
      go_wp2
      refine And.intro SS.out ?_
      refine ord_two (i := 5) (j := 9) rfl rfl (by kernel_rfl) ?_ ?_
      · go_wp2_with fail
        refine (clone_output u1 (.slice a2 K c2) K (x.outs.flatMap outC) (HI.out.2.fresh BB.out) HONE.out.2 HBD.out.2.1).mono ?_
        rintro e u2 ⟨vo, rfl, oo, b⟩
        obtain ⟨av, cv, rfl⟩ := (Rd.of_own oo).slice
        have DO' : Hid (∀ k, (Value.slice av K cv).ownBlock = some k → u1.heap.size ≤ k ∧ k < u2.heap.size) := Lib.hid (fun k hk => oo.lt k hk)
        have ZO : Hid (u1.heap.size ≤ u2.heap.size) := Lib.hid b.size
        have LX : w.heap.size ≤ u1.heap.size := BB.out.size
        replace SS := Lib.hid (SS.out.fresh b)
        replace GG := Lib.hid (GG.out.fresh b)
        replace BB := Lib.hid (BB.out.tr b)
        replace OI := Lib.hid (own_fresh OI.out b)
        skip
        have OO := Lib.hid (own_lower' oo LX)
        clear LX oo b
        go_wp2
        refine And.intro SS.out ?_
        refine pl_takeB (i := 8) 14 rfl rfl rfl (by kernel_rfl) (by kernel_rfl) (by kernel_rfl) (by simp [Act.put]) SS.out ?_
        apply Exists.intro
        refine And.intro (fun w' hS' => ?_) ?_
        · clear hS'
          go_wp2
          first
            | exact ⟨trivial, rfl⟩
            | exact rfl
        refine pl_heavy (i := 9) rfl (by kernel_rfl) ?_
        go_wp2
        obtain ⟨u3, h, k, b, s⟩ := alloc_cb u2 37 [.slice none 0 0, .slice none 0 0, .int .u64 0]
        have q := SS.out.fresh b
        refine And.intro (by rw [h] at q; exact q) ?_
        change wpAnyH _ _ _ _ _ _ _ _ (World.alloc u2 (.cells [.slice none 0 0, .slice none 0 0, .int .u64 0].toArray 37))
        rw [← h]
        replace SS := Lib.hid (SS.out.fresh b)
        replace GG := Lib.hid (GG.out.fresh b)
        replace BB := Lib.hid (BB.out.tr b)
        replace OI := Lib.hid (own_fresh OI.out b); replace OO := Lib.hid (own_fresh OO.out b)
        obtain ⟨G3, hG⟩ : ∃ G, G = u2.heap.size := ⟨_, rfl⟩
        rw [← hG] at k ⊢
        have K3 := Lib.hid k
        have ZA : Hid (G3 = u2.heap.size ∧ u3.heap.size = u2.heap.size + 1) := Lib.hid ⟨hG, s⟩
        clear q h k s hG b
        have q4 := Z0.out
        have q1 := ZI.out
        have q2 := ZO.out
        have q3 := ZA.out
        exact HREST.out u3 G3 ai ci av cv ⟨SS.out, GG.out, K3.out, by omega, OI.out, OO.out, fun k hk => by have := DI.out k hk; omega, fun k hk => by
          have h1 := DO'.out k hk
          refine ⟨by omega, by omega, fun e => ?_⟩
          have h2 := DI.out k e
          omega, BB.out⟩
      · go_wp2
        obtain ⟨u2, h, k, b, s⟩ := alloc_cb u1 37 [.slice none 0 0, .slice none 0 0, .int .u64 0]
        have q := SS.out.fresh b
        refine And.intro (by rw [h] at q; exact q) ?_
        change wpAnyH _ _ _ _ _ _ _ _ (World.alloc u1 (.cells [.slice none 0 0, .slice none 0 0, .int .u64 0].toArray 37))
        rw [← h]
        replace SS := Lib.hid (SS.out.fresh b)
        replace GG := Lib.hid (GG.out.fresh b)
        replace BB := Lib.hid (BB.out.tr b)
        replace OI := Lib.hid (own_fresh OI.out b)
        obtain ⟨G3, hG⟩ : ∃ G, G = u1.heap.size := ⟨_, rfl⟩
        rw [← hG] at k ⊢
        have K3 := Lib.hid k
        have ZA : Hid (G3 = u1.heap.size ∧ u2.heap.size = u1.heap.size + 1) := Lib.hid ⟨hG, s⟩
        clear q h k s hG b
        refine pl_heavy (i := 5) rfl (by kernel_rfl) ?_
        go_wp2_with fail
        refine (clone_output u2 (.slice a2 K c2) K (x.outs.flatMap outC) (HI.out.2.fresh BB.out) HONE.out.2 HBD.out.2.1).mono ?_
        rintro e u3 ⟨vo, rfl, oo, b⟩
        obtain ⟨av, cv, rfl⟩ := (Rd.of_own oo).slice
        have DO' : Hid (∀ k, (Value.slice av K cv).ownBlock = some k → u2.heap.size ≤ k ∧ k < u3.heap.size) := Lib.hid (fun k hk => oo.lt k hk)
        have ZO : Hid (u2.heap.size ≤ u3.heap.size) := Lib.hid b.size
        have LX : w.heap.size ≤ u2.heap.size := BB.out.size
        replace SS := Lib.hid (SS.out.fresh b)
        replace GG := Lib.hid (GG.out.fresh b)
        replace BB := Lib.hid (BB.out.tr b)
        replace OI := Lib.hid (own_fresh OI.out b)
        replace K3 := Lib.hid (K3.out.fresh b)
        have OO := Lib.hid (own_lower' oo LX)
        clear LX oo b
        go_wp2
        refine And.intro SS.out ?_
        refine pl_takeB (i := 8) 14 rfl rfl rfl (by kernel_rfl) (by kernel_rfl) (by kernel_rfl) (by simp [Act.put]) SS.out ?_
        apply Exists.intro
        refine And.intro (fun w' hS' => ?_) ?_
        · clear hS'
          go_wp2
          first
            | exact ⟨trivial, rfl⟩
            | exact rfl
        have q4 := Z0.out
        have q1 := ZI.out
        have q2 := ZO.out
        have q3 := ZA.out
        exact HREST.out u3 G3 ai ci av cv ⟨SS.out, GG.out, K3.out, by omega, OI.out, OO.out, fun k hk => by have := DI.out k hk; omega, fun k hk => by
          have h1 := DO'.out k hk
          refine ⟨by omega, by omega, fun e => ?_⟩
          have h2 := DI.out k e
          omega, BB.out⟩
    · go_wp2
      obtain ⟨u1, h, k, b, s⟩ := alloc_cb w3 37 [.slice none 0 0, .slice none 0 0, .int .u64 0]
      have q := SS.out.fresh b
      refine And.intro (by rw [h] at q; exact q) ?_
      change wpAnyH _ _ _ _ _ _ _ _ (World.alloc w3 (.cells [.slice none 0 0, .slice none 0 0, .int .u64 0].toArray 37))
      rw [← h]
      replace SS := Lib.hid (SS.out.fresh b)
      replace GG := Lib.hid (GG.out.fresh b)
      replace BB := Lib.hid (BB.out.tr b)
      skip
      obtain ⟨G3, hG⟩ : ∃ G, G = w3.heap.size := ⟨_, rfl⟩
      rw [← hG] at k ⊢
      have K3 := Lib.hid k
      have ZA : Hid (G3 = w3.heap.size ∧ u1.heap.size = w3.heap.size + 1) := Lib.hid ⟨hG, s⟩
      clear q h k s hG b
      refine pl_heavy (i := 2) rfl (by kernel_rfl) ?_
      go_wp2_with fail
      refine (clone_input u1 (.slice a0 N c0) N ((x.ins.zip us).flatMap inC) (HI.out.1.fresh BB.out) HONE.out.1 HBD.out.1).mono ?_
      rintro e u2 ⟨vi, rfl, oi, b⟩
      obtain ⟨ai, ci, rfl⟩ := (Rd.of_own oi).slice
      have DI : Hid (∀ k, (Value.slice ai N ci).ownBlock = some k → u1.heap.size ≤ k ∧ k < u2.heap.size) := Lib.hid (fun k hk => oi.lt k hk)
      have ZI : Hid (u1.heap.size ≤ u2.heap.size) := Lib.hid b.size
      have LX : w.heap.size ≤ u1.heap.size := BB.out.size
      replace SS := Lib.hid (SS.out.fresh b)
      replace GG := Lib.hid (GG.out.fresh b)
      replace BB := Lib.hid (BB.out.tr b)
      replace K3 := Lib.hid (K3.out.fresh b)
      have OI := Lib.hid (own_lower' oi LX)
      clear LX oi b
      go_wp2
      refine And.intro SS.out ?_
      refine pl_heavy (i := 5) rfl (by kernel_rfl) ?_
      go_wp2_with fail
      refine (clone_output u2 (.slice a2 K c2) K (x.outs.flatMap outC) (HI.out.2.fresh BB.out) HONE.out.2 HBD.out.2.1).mono ?_
      rintro e u3 ⟨vo, rfl, oo, b⟩
      obtain ⟨av, cv, rfl⟩ := (Rd.of_own oo).slice
      have DO' : Hid (∀ k, (Value.slice av K cv).ownBlock = some k → u2.heap.size ≤ k ∧ k < u3.heap.size) := Lib.hid (fun k hk => oo.lt k hk)
      have ZO : Hid (u2.heap.size ≤ u3.heap.size) := Lib.hid b.size
      have LX : w.heap.size ≤ u2.heap.size := BB.out.size
      replace SS := Lib.hid (SS.out.fresh b)
      replace GG := Lib.hid (GG.out.fresh b)
      replace BB := Lib.hid (BB.out.tr b)
      replace OI := Lib.hid (own_fresh OI.out b)
      replace K3 := Lib.hid (K3.out.fresh b)
      have OO := Lib.hid (own_lower' oo LX)
      clear LX oo b
      go_wp2
      refine And.intro SS.out ?_
      refine pl_takeB (i := 8) 14 rfl rfl rfl (by kernel_rfl) (by kernel_rfl) (by kernel_rfl) (by simp [Act.put]) SS.out ?_
      apply Exists.intro
      refine And.intro (fun w' hS' => ?_) ?_
      · clear hS'
        go_wp2
        first
          | exact ⟨trivial, rfl⟩
          | exact rfl
      have q4 := Z0.out
      have q1 := ZI.out
      have q2 := ZO.out
      have q3 := ZA.out
      exact HREST.out u3 G3 ai ci av cv ⟨SS.out, GG.out, K3.out, by omega, OI.out, OO.out, fun k hk => by have := DI.out k hk; omega, fun k hk => by
        have h1 := DO'.out k hk
        refine ⟨by omega, by omega, fun e => ?_⟩
        have h2 := DI.out k e
        omega, BB.out⟩
  case rest =>
    rintro wz G3 ai ci av cv ⟨sz, gz, kz, l3, oi, oo, di, dv, bz⟩
    obtain ⟨VI, hVI⟩ : ∃ V, V = Value.slice ai N ci := ⟨_, rfl⟩
    have DD := Lib.hid (And.intro di dv)
    have SZ := Lib.hid sz
    have LL := Lib.hid l3
    refine pl_heavy (i := 10) rfl (by kernel_rfl) ?_
    refine wpList_store_var rfl 37 (.tmp 3) (.tmp 14) rfl G3 _ rfl _ [.slice ai N ci, .slice av K cv, .int .u64 x.nonce] rfl kz (by simp) (by intro u hu; simp at hu; rcases hu with rfl | rfl | rfl <;> rfl) (by exact infoTx) ?_
    intro wy ky oy
    have KY : Hid (CB wy 37 G3 [.slice ai N ci, .slice av K cv, .int .u64 x.nonce]) := Lib.hid ky
    have OI := Lib.hid (own_onlyT oi oy (fun e => (di _ e).2 rfl))
    have OO := Lib.hid (own_onlyT oo oy (fun e => (dv _ e).2.1 rfl))
    have SY : Hid (CB wy 37 w.heap.size [.slice a0 N c0, .slice a2 K c2, .int .u64 x.nonce]) := Lib.hid (sz.only oy (by omega))
    have GY : Hid (CB wy 37 (w.heap.size + 1) [.slice none 0 0, .slice none 0 0, .int .u64 0]) := Lib.hid (gz.only oy (by omega))
    have BY : Hid (Below w.heap.size w wy) := Lib.hid (Below.only bz oy (by omega))
    clear sz gz kz l3 oi oo di dv bz ky oy SS GG BB hVI
    go_wp2
    refine And.intro SY.out ?_
    refine pl_done (by kernel_rfl) ?_
    have hc3 := KY.out.cell 0 _ rfl
    go_wp2
    clear hc3
    go_loopw [4, 5, 18] (fun v4 v5 v18 wr => Below w.heap.size w wr ∧ CB wr 37 (w.heap.size + 1) [.slice none 0 0, .slice none 0 0, .int .u64 0] ∧ CB wr 37 G3 [.slice ai N ci, .slice av K cv, .int .u64 x.nonce] ∧ wr.ownsRow w.heap.size 46 33 (.slice av K cv) K (x.outs.flatMap outC) ∧ ∃ (k : Nat) (vs : List Value), k ≤ N ∧ v18 = .int .i64 (k : Int) ∧ vs.length = N ∧ wr.ownsRow w.heap.size 44 34 (.slice ai N ci) N ((x.ins.zip vs).flatMap inC) ∧ ∀ (i : Nat) (xi : InD) (ui : Value), x.ins[i]? = some xi → vs[i]? = some ui → (i < k → RdF (fun b => (w.heap.size + 1 < b ∧ b < wr.heap.size) ∧ (Value.slice ai N ci).ownBlock ≠ some b) wr 1 ui xi.wit.length (bvs xi.wit)) ∧ (k ≤ i → us[i]? = some ui))
      (fun _ _ v _ => N - (RowKit.intOf v).toNat)
    case atStart => exact ⟨BY.out, GY.out, KY.out, OO.out, 0, us, Nat.zero_le _, rfl, HL.out.2.2, OI.out, fun i xi ui h1 h2 => ⟨fun h => absurd h (Nat.not_lt_zero _), fun _ => h2⟩⟩
    case round =>
      obtain ⟨hb, hg, hk3, hoo, k, vs, hk, rfl, hlv, hoi, hw⟩ := hrel
      by_cases hlt : k < N
      · obtain ⟨gi, ci', he, hfz, hgb⟩ := own_at hoi (by omega)
        simp only [Value.slice.injEq, true_and] at he
        obtain ⟨rfl, rfl⟩ := he
        obtain ⟨xi, hx⟩ : ∃ z, x.ins[k]? = some z := ⟨_, List.getElem?_eq_getElem (by rw [← HL.out.1]; exact hlt)⟩
        obtain ⟨ux, hux⟩ : ∃ z, vs[k]? = some z := ⟨_, List.getElem?_eq_getElem (by rw [hlv]; exact hlt)⟩
        have hus := (hw k xi ux hx hux).2 (Nat.le_refl _)
        have HXO : Hid (InOk xi ∧ ux.oneCell' = true ∧ xi.wit.length ≤ 100000000) := Lib.hid ⟨HOK.out.1 _ (List.mem_of_getElem? hx), HO1.out k xi ux hx hus, HBD.out.2.2 _ (List.mem_of_getElem? hx)⟩
        have HWT := Lib.hid ((HE.out k xi ux hx hus).1.fresh hb)
        have hz : (x.ins.zip vs)[k]? = some (xi, ux) := by rw [List.getElem?_zip_eq_some]; exact ⟨hx, hux⟩
        have hok : ∀ z ∈ x.ins.zip vs, (inC z).length = 34 := fun z hz => inC_length (HOK.out.1 _ (List.of_mem_zip hz).1)
        have hea : (⟨gi, 0, none⟩ : Addr).add (k * 34) = ⟨gi, k * 34, none⟩ := by rw [add_at, Nat.zero_add]
        have hc1 := (Rd.of_own hoi).at hok hz
        rw [hea] at hc1
        have HC1 := Lib.hid hc1
        clear hc1 hea
        have HG := Lib.hid (And.intro hx (And.intro hux (And.intro hz (And.intro hok (And.intro hlv hgb)))))
        have HB := Lib.hid hb
        have H2 := Lib.hid hg
        have H3 := Lib.hid hk3
        have HOo := Lib.hid hoo
        have HOi := Lib.hid hoi
        have HW := Lib.hid hw
        have HK := Lib.hid hlt
        have ik : (k : Int) < (N : Int) := by omega
        clear hx hux hus hz hok hlv hgb hb hg hk3 hoo hoi hw hlt hk hfz KY OI OO SY GY BY
        go_wp2_with (with_reducible refine stopAt 22 ?_)
        refine Stop.go ?_
        refine wpList_load_agg rfl 44 (.tmp 21) rfl ⟨gi, k * 34, none⟩ rfl (inC (xi, ux)) _ HC1.out Try.underlying44 rfl (by rw [inC_length HXO.out.1]; exact infoIn) ?_
        go_wp2_with (with_reducible refine stopStore 44 ?_)
        refine Stop.go ?_
        refine wpList_store_var rfl 44 (.tmp 5) (.tmp 22) rfl wr.heap.size _ rfl _ (inC (xi, ux)) rfl (heap_alloc_new wr _) (by rw [inC_length HXO.out.1]; rfl) (inC_one xi ux HXO.out.2.1) (by rw [inC_length HXO.out.1]; exact infoIn) ?_
        intro w5 k5 o5
        have b5 : Below wr.heap.size wr w5 := Below.only ((Below.refl _ wr).alloc (Nat.le_refl _) _) o5 (Nat.le_refl _)
        obtain ⟨G5, hG5⟩ : ∃ g, g = wr.heap.size := ⟨_, rfl⟩
        have K5 : Hid (CB w5 44 G5 (inC (xi, ux))) := Lib.hid (by rw [hG5]; exact k5)
        have L5 : Hid (gi < G5 ∧ G3 < G5 ∧ w.heap.size + 1 < G5) := Lib.hid ⟨by rw [hG5]; exact (HOi.out.lt gi rfl).2, by rw [hG5]; exact H3.out.lt, by rw [hG5]; exact H2.out.lt⟩
        rw [← hG5]
        replace HB := Lib.hid (HB.out.tr b5).drew
        replace H2 := Lib.hid (H2.out.fresh b5.drew)
        replace H3 := Lib.hid (H3.out.fresh b5.drew)
        replace HOo := Lib.hid (own_fresh HOo.out b5.drew)
        replace HOi := Lib.hid (own_fresh HOi.out b5.drew)
        replace HWT := Lib.hid (HWT.out.fresh b5.drew)
        replace K5 := Lib.hid (K5.out.fresh (show Below w5.heap.size w5 w5.drew from (Below.refl _ w5).drew))
        have HW' := Lib.hid (fun (i : Nat) (xi : InD) (ui : Value) h1 h2 => (⟨fun h => (((HW.out i xi ui h1 h2).1 h).fresh b5.drew).mono (fun b hb => ⟨⟨hb.1.1, Nat.lt_of_lt_of_le hb.1.2 b5.drew.size⟩, hb.2⟩), (HW.out i xi ui h1 h2).2⟩ : (i < k → RdF (fun b => (w.heap.size + 1 < b ∧ b < w5.drew.heap.size) ∧ (Value.slice (some ⟨gi, 0, none⟩) N ci).ownBlock ≠ some b) w5.drew 1 ui xi.wit.length (bvs xi.wit)) ∧ (k ≤ i → us[i]? = some ui)))
        clear k5 o5 b5 hG5 HW HC1
        go_wp2_with fail
        have hS := Lib.hid (And.intro H3.out K5.out)
        refine pl_start 9 rfl (fun w' => CB w' 37 G3 [.slice (some ⟨gi, 0, none⟩) N ci, .slice av K cv, .int .u64 x.nonce] ∧ CB w' 44 G5 (inC (xi, ux))) (by kernel_rfl) ?_
        obtain ⟨w6, hw6⟩ : ∃ w6, w6 = w5.drew := ⟨_, rfl⟩
        rw [← hw6] at HB H2 H3 HOo HOi HWT K5 HW' hS ⊢
        clear hw6
        refine pl_take (i := 0) 23 rfl rfl rfl (by kernel_rfl) (by kernel_rfl) (by kernel_rfl) (by simp [Act.put]) hS.out ?_
        apply Exists.intro
        refine And.intro (fun w' hS' => ?_) ?_
        · go_wp2
          first
            | exact ⟨trivial, rfl⟩
            | exact rfl
        refine pl_take (i := 1) 24 rfl rfl rfl (by kernel_rfl) (by kernel_rfl) (by kernel_rfl) (by simp [Act.put]) hS.out ?_
        apply Exists.intro
        refine And.intro (fun w' hS' => ?_) ?_
        · have hc := hS'.1.cell 0 _ rfl
          clear hS'
          go_wp2
          exact ⟨trivial, rfl⟩
        refine pl_take (i := 2) 25 rfl rfl rfl (by kernel_rfl) (by kernel_rfl) (by kernel_rfl) (by simp [Act.put]) hS.out ?_
        apply Exists.intro
        refine And.intro (fun w' hS' => ?_) ?_
        · go_wp2
          first
            | exact ⟨trivial, rfl⟩
            | exact rfl
        refine pl_take (i := 3) 26 rfl rfl rfl (by kernel_rfl) (by kernel_rfl) (by kernel_rfl) (by simp [Act.put]) hS.out ?_
        apply Exists.intro
        refine And.intro (fun w' hS' => ?_) ?_
        · go_wp2
          first
            | exact ⟨trivial, rfl⟩
            | exact rfl
        refine pl_take (i := 4) 27 rfl rfl rfl (by kernel_rfl) (by kernel_rfl) (by kernel_rfl) (by simp [Act.put]) hS.out ?_
        apply Exists.intro
        refine And.intro (fun w' hS' => ?_) ?_
        · have hc := hS'.2.cell 33 _ (inC_33 HXO.out.1)
          clear hS'
          go_wp2
          exact ⟨trivial, rfl⟩
        refine pl_heavy (i := 5) rfl (by kernel_rfl) ?_
        go_wp2_with fail
        refine (clone_byte w6 ux xi.wit.length (bvs xi.wit) HWT.out (bvs_one _) HXO.out.2.2).mono ?_
        rintro e w7 ⟨vn, rfl, on, b7⟩
        obtain ⟨an, cn, rfl⟩ := (Rd.of_own on).slice
        have HN := Lib.hid on
        have L7 : Hid (w6.heap.size ≤ w7.heap.size ∧ G5 < w6.heap.size) := Lib.hid ⟨b7.size, K5.out.lt⟩
        replace hS := Lib.hid (And.intro (hS.out.1.fresh b7) (hS.out.2.fresh b7))
        replace HB := Lib.hid (HB.out.tr b7)
        replace H2 := Lib.hid (H2.out.fresh b7)
        replace HOo := Lib.hid (own_fresh HOo.out b7)
        replace HOi := Lib.hid (own_fresh HOi.out b7)
        have HW := Lib.hid (fun (i : Nat) (xi : InD) (ui : Value) h1 h2 => (⟨fun h => (((HW'.out i xi ui h1 h2).1 h).fresh b7).mono (fun b hb => ⟨⟨hb.1.1, Nat.lt_of_lt_of_le hb.1.2 b7.size⟩, hb.2⟩), (HW'.out i xi ui h1 h2).2⟩ : (i < k → RdF (fun b => (w.heap.size + 1 < b ∧ b < w7.heap.size) ∧ (Value.slice (some ⟨gi, 0, none⟩) N ci).ownBlock ≠ some b) w7 1 ui xi.wit.length (bvs xi.wit)) ∧ (k ≤ i → us[i]? = some ui)))
        clear on b7 HW' H3 K5 HWT
        go_wp2
        refine And.intro hS.out ?_
        refine pl_take (i := 6) 29 rfl rfl rfl (by kernel_rfl) (by kernel_rfl) (by kernel_rfl) (by simp [Act.put]) hS.out ?_
        apply Exists.intro
        refine And.intro (fun w' hS' => ?_) ?_
        · clear hS'
          go_wp2
          exact ⟨trivial, rfl⟩
        refine pl_take (i := 7) 30 rfl rfl rfl (by kernel_rfl) (by kernel_rfl) (by kernel_rfl) (by simp [Act.put]) hS.out ?_
        apply Exists.intro
        refine And.intro (fun w' hS' => ?_) ?_
        · go_wp2
          first
            | exact ⟨trivial, rfl⟩
            | exact rfl
        have hcc : w7.cell? ⟨gi, k * 34 + 33, none⟩ = some ux := by
          have h1 := (Rd.of_own HOi.out).at HG.out.2.2.2.1 HG.out.2.2.1 33 ux (inC_33 HXO.out.1)
          rw [add_at, add_at, Nat.zero_add] at h1
          exact h1
        have hff : w7.frozen? ⟨gi, k * 34 + 33, none⟩ = false := by
          obtain ⟨gi', ci', he, hfz, hgb⟩ := own_at HOi.out (by have := HK.out; omega)
          simp only [Value.slice.injEq, Option.some.injEq, Addr.mk.injEq, true_and, and_true] at he
          obtain ⟨rfl, _⟩ := he
          exact hfz _
        refine pl_heavy (i := 8) rfl (by kernel_rfl) ?_
        go_wp2
        clear hcc hff
        obtain ⟨VN, hVN⟩ : ∃ V, V = Value.slice an xi.wit.length cn := ⟨_, rfl⟩
        rw [← hVN]
        rw [← hVN] at HN
        have oz : Only gi w7 (w7.setCell ⟨gi, k * 34 + 33, none⟩ VN) := Only.setCell w7 gi (k * 34 + 33) VN
        have osz := own_setCell HOi.out (k * 34 + 33) VN
        obtain ⟨w8, hw8⟩ : ∃ w8, w8 = w7.setCell ⟨gi, k * 34 + 33, none⟩ VN := ⟨_, rfl⟩
        rw [← hw8] at oz osz ⊢
        rw [flat_set inC 34 _ HG.out.2.2.2.1 HG.out.2.2.1 (y := (xi, VN)) (inC_length HXO.out.1) 33 VN (by omega) (inC_set HXO.out.1), zip_set _ _ _ _ _ HG.out.1] at osz
        have g1 : G3 ≠ gi := fun e => (DD.out.1 gi rfl).2 e.symm
        have g2 : w.heap.size + 1 ≠ gi := fun e => by have := (DD.out.1 gi rfl).1; omega
        have S8 : CB w8 37 G3 [.slice (some ⟨gi, 0, none⟩) N ci, .slice av K cv, .int .u64 x.nonce] := hS.out.1.only oz g1
        have S9 : CB w8 44 G5 (inC (xi, ux)) := hS.out.2.only oz (by have := L5.out.1; omega)
        refine And.intro ⟨S8, S9⟩ ?_
        have R8 := Lib.hid (Below.only HB.out oz HG.out.2.2.2.2.2)
        have R2 := Lib.hid (H2.out.only oz g2)
        have R3 := Lib.hid S8
        have RO := Lib.hid (own_onlyT HOo.out oz (fun e => (DD.out.2 gi e).2.2 rfl))
        have RI := Lib.hid osz
        have RW : Hid (∀ (i : Nat) (yi : InD) (ui : Value), x.ins[i]? = some yi → (vs.set k VN)[i]? = some ui → (i < k + 1 → RdF (fun b => (w.heap.size + 1 < b ∧ b < w8.heap.size) ∧ (Value.slice (some ⟨gi, 0, none⟩) N ci).ownBlock ≠ some b) w8 1 ui yi.wit.length (bvs yi.wit)) ∧ (k + 1 ≤ i → us[i]? = some ui)) := Lib.hid (fun i yi ui h1 h2 => by
          by_cases hik : i = k
          · subst hik
            rw [HG.out.1] at h1
            simp only [Option.some.injEq] at h1
            subst h1
            rw [List.getElem?_set_self (by rw [HG.out.2.2.2.2.1]; exact HK.out)] at h2
            simp only [Option.some.injEq] at h2
            subst h2
            refine ⟨fun _ => ⟨(Rd.of_own HN.out).kept (fun b _ hb => oz.block b (fun e => ?_)), fun b hb => ⟨?_, fun e => ?_⟩⟩, fun h => by omega⟩
            · have h3 := (HN.out.lt b hb).1
              have := L7.out
              have := L5.out
              omega
            · have h3 := HN.out.lt b hb
              have := L7.out
              have := L5.out
              have := oz.size
              exact ⟨by omega, by omega⟩
            · have h3 := (HN.out.lt b hb).1
              simp only [Value.ownBlock, Option.map_some, Option.some.injEq] at e
              have := L7.out
              have := L5.out
              omega
          · rw [List.getElem?_set_ne (fun e => hik e.symm)] at h2
            have h3 := HW.out i yi ui h1 h2
            refine ⟨fun h => ?_, fun h => h3.2 (by omega)⟩
            have h4 := h3.1 (by omega)
            exact ⟨h4.1.kept (fun b _ hb => oz.block b (fun e => (h4.2 b hb).2 (by rw [e]; rfl))), fun b hb => ⟨⟨(h4.2 b hb).1.1, by rw [oz.size]; exact (h4.2 b hb).1.2⟩, (h4.2 b hb).2⟩⟩)
        clear hw8 oz osz S8 S9 g1 g2 hS HB H2 HOo HOi HW HN hVN
        refine pl_done (by kernel_rfl) ?_
        go_wp2
        go_roundw
        case rel => exact ⟨R8.out, R2.out, R3.out, RO.out, k + 1, vs.set k VN, HK.out, by go_num, by rw [List.length_set]; exact HG.out.2.2.2.2.1, RI.out, RW.out⟩
        case measure => simp only [RowKit.intOf]; have := HK.out; omega
      · have ik : ¬ ((k : Int) < (N : Int)) := by omega
        have hkN : k = N := by omega
        have HH := Lib.hid (And.intro hb (And.intro hg (And.intro hk3 (And.intro hoo (And.intro hlv (And.intro hoi hw))))))
        have HK := Lib.hid hkN
        clear hb hg hk3 hoo hlv hoi hw hk hlt hkN KY OI OO SY GY BY
        go_wp2_with (with_reducible refine stopAt 32 ?_)
        refine Stop.go ?_
        refine wpList_load_agg rfl 37 (.tmp 3) rfl ⟨G3, 0, none⟩ rfl [.slice ai N ci, .slice av K cv, .int .u64 x.nonce] _ (At.block HH.out.2.2.1).load Try.underlying37 rfl (by exact infoTx) ?_
        go_wp2_with (with_reducible refine stopStore 37 ?_)
        refine Stop.go ?_
        refine wpList_store_var rfl 37 (.tmp 2) (.tmp 32) rfl (w.heap.size + 1) _ rfl _ [.slice ai N ci, .slice av K cv, .int .u64 x.nonce] rfl HH.out.2.1 (by simp) (by intro u hu; simp at hu; rcases hu with rfl | rfl | rfl <;> rfl) (by exact infoTx) ?_
        intro wf kf of
        have BF : Hid (Below w.heap.size w wf) := Lib.hid (Below.only HH.out.1 of (by omega))
        have KF := Lib.hid kf
        have OF := Lib.hid (own_onlyT HH.out.2.2.2.2.2.1 of (fun e => absurd (DD.out.1 _ e).1 (Nat.lt_irrefl _)))
        have OP := Lib.hid (own_onlyT HH.out.2.2.2.1 of (fun e => absurd (DD.out.2 _ e).1 (Nat.lt_irrefl _)))
        have WF : Hid (∀ (i : Nat) (xi : InD) (ui : Value), x.ins[i]? = some xi → vs[i]? = some ui → RdF (fun b => w.heap.size ≤ b ∧ b < wf.heap.size) wf 1 ui xi.wit.length (bvs xi.wit)) := Lib.hid (fun i xi ui h1 h2 => by
          have h3 := (HH.out.2.2.2.2.2.2 i xi ui h1 h2).1 (by have := (List.getElem?_eq_some_iff.1 h1).1; have := HK.out; have := HL.out.1; omega)
          exact ⟨h3.1.kept (fun b _ hb => of.block b (fun e => by have := (h3.2 b hb).1.1; omega)), fun b hb => by have := (h3.2 b hb).1; have := of.size; exact ⟨by omega, by omega⟩⟩)
        clear kf of
        go_wp2
        refine bodyPost_ret (results_cell1 rfl _ _ (w.heap.size + 1) _ _ _ _ rfl KF.out Try.underlying37 rfl (by simp [infoTx])) rfl ⟨(.slice ai N ci, .slice av K cv), rfl, ⟨vs, HH.out.2.2.2.2.1.trans HL.out.1, HOK.out.1, ⟨?_, fun b hb => ?_⟩, WF.out⟩, ⟨HOK.out.2, ⟨?_, fun b hb => ?_⟩⟩, BF.out⟩
        · rw [← HL.out.1]; exact Rd.of_own OF.out
        · exact OF.out.lt b hb
        · rw [← HL.out.2.1]; exact Rd.of_own OP.out
        · exact OP.out.lt b hb

end Go.Proofs.Ytkbahhnjoidhcaa
