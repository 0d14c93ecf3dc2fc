/- Disks: a step as it is run; steps made and put: the walks. -/
import Derived.Test.YtbbbgpdhdlknjaaDe
namespace Go.Proofs.Ytbbbgpdhdlknjaa
set_option linter.unusedVariables false
set_option linter.unusedSimpArgs false
open Go.RowKit Go.Lib

theorem results_cell1 {P : Program} {fn : Func} {p : Tmp} {ty : TypeId} (h : fn.results = #[.cell p ty]) (tmps : Array Value) (w : World) (g : Nat) (t : TypeId) (cs : Array Value) (fr : Nat × Nat) (d : TypeDesc)
    (hp : tmps.getD p undef = .pointer (some ⟨g, 0, none⟩)) (hg : w.heap[g]? = some (.cells cs t fr))
    (hu : P.underlying ty = some d) (hd : (match d with | .struct _ | .array _ _ => true | _ => false) = true) (hi : (P.info? ty).map (·.size) = some cs.size) :
    (results fn tmps).run P w = .ok (.agg cs) w := by
  have hp' : tmps[p]?.getD undef = .pointer (some ⟨g, 0, none⟩) := by simpa using hp
  simp [results, h, hp', asAddr, run_loadVar_row w g t ty cs fr d hg hu hd hi]

/-- A step's function, with what it holds. -/
def StF [Inhabited (Option Nat)] (w : World) (F g1 g2 : Nat) : St → Prop
  | .put i b => F = 66 ∧ i < 16 ∧ ∃ v, CB w 3 g1 [.int .i64 (i : Int)] ∧ CB w 29 g2 [v] ∧ RdU w v b
  | .cut i n => F = 61 ∧ i < 16 ∧ CB w 3 g1 [.int .i64 (i : Int)] ∧ CB w 3 g2 [.int .i64 (n : Int)]

def stV (F g1 g2 : Nat) (i : Int) (v : Value) : List Value := [.func (.func F) #[] #[.pointer (some ⟨g1, 0, none⟩), .pointer (some ⟨g2, 0, none⟩)], .int .i64 i, v]

theorem StC.fn [Inhabited (Option Nat)] {w : World} {cs : List Value} {x : St} (h : StC w cs x) : ∃ F g1 g2 i a n c, cs = stV F g1 g2 i (.slice a n c) ∧ StF w F g1 g2 x := by
  cases x with
  | put i b =>
    obtain ⟨hi, g1, g2, v, rfl, c1, c2, hr⟩ := h
    obtain ⟨a, c, rfl⟩ := hr.slice
    exact ⟨_, g1, g2, _, _, _, _, rfl, rfl, hi, _, c1, c2, hr⟩
  | cut i n =>
    obtain ⟨hi, g1, g2, rfl, c1, c2⟩ := h
    exact ⟨_, g1, g2, _, _, _, _, rfl, rfl, hi, c1, c2⟩

theorem StF.kt [Inhabited (Option Nat)] {w w' : World} {F g1 g2 : Nat} {x : St} {E : List TypeId} (h : StF w F g1 g2 x) (hk : Kt E w w') (h1 : 5 ∉ E) (h2 : 3 ∉ E) (h3 : 29 ∉ E) : StF w' F g1 g2 x := by
  cases x with
  | put i b =>
    obtain ⟨hf, hi, v, c1, c2, hr⟩ := h
    exact ⟨hf, hi, v, c1.kt hk h2, c2.kt hk h3, hr.kt hk h1⟩
  | cut i n =>
    obtain ⟨hf, hi, c1, c2⟩ := h
    exact ⟨hf, hi, c1.kt hk h2, c2.kt hk h2⟩
theorem StF.fresh [Inhabited (Option Nat)] {w w' : World} {F g1 g2 : Nat} {x : St} (h : StF w F g1 g2 x) (hb : Below w.heap.size w w') : StF w' F g1 g2 x := h.kt (E := []) (Kt.fresh hb) (by simp) (by simp) (by simp)
theorem StC.fresh [Inhabited (Option Nat)] {w w' : World} {cs : List Value} {x : St} (h : StC w cs x) (hb : Below w.heap.size w w') : StC w' cs x := h.kt (E := []) (Kt.fresh hb) (by simp) (by simp) (by simp)

theorem app_put (l : List Bs) (i : Nat) (b : Bs) : app l (.put i b) = l.set i (l.getD i [] ++ b) := rfl
theorem app_cut (l : List Bs) (i n : Nat) : app l (.cut i n) = l.set i ((l.getD i []).take n) := rfl

/-- A step, run over logs that lie at a place. -/
theorem stf_any [Inhabited (Option Nat)] (w : World) (T : TypeId) (g o : Nat) (cur vs : List Value) (ls : List Bs) (F g1 g2 : Nat) (x : St) (hx : StF w F g1 g2 x) (hc : CB w T g cur) (t1 : 3 ≠ T) (t2 : 29 ≠ T) (t3 : 5 ≠ T)
    (hfit : o + 16 ≤ cur.length) (hat : ∀ i, i < 16 → cur[o + i]? = vs[i]?) (hl : Lg w vs ls) (hlen : ∀ l ∈ app ls x, l.length ≤ 100000000) (hav : Av w.heap.size) :
    Calls Try.prog F #[.pointer (some ⟨g, o, none⟩), .pointer (some ⟨g1, 0, none⟩), .pointer (some ⟨g2, 0, none⟩)] w fun e w' => e = .returned (.tuple #[]) ∧ ∃ i v', i < 16 ∧ CB w' T g (cur.set (o + i) v') ∧ Lg w' (vs.set i v') (app ls x) ∧ w.grownBy w' (some g) := by
  have key : ∀ (i : Nat) (b : Bs) (w' : World) (v' : Value), RdU w' v' b → w.grownBy w' (some g) → Lg w' (vs.set i v') (ls.set i b) := by
    intro i b w' v' h hg
    refine (hl.kt (E := [T]) (Kt.grown (e := T) hg (fun k hk => ?_) (by simp)) (by simpa using t3)).set h
    simp only [Option.some.injEq] at hk
    exact hk ▸ hc.tag
  cases x with
  | put i b =>
    obtain ⟨rfl, hi, v, c1, c2, hr⟩ := hx
    obtain ⟨u, l, hu, hls, hru, hgd⟩ := hl.get hi
    have hb : (l ++ b).length ≤ 100000000 := by
      refine hlen _ ?_
      rw [app_put, hgd]
      exact List.mem_iff_getElem?.2 ⟨i, by rw [List.getElem?_set_self (by rw [hl.2.1]; exact hi)]⟩
    refine (adds1_any w T g o cur i u l b g1 g2 v ⟨hc, t1, t2, t3, hi, hfit, (hat i hi).trans hu, hru⟩ c1 c2 hr (by simpa using hb) hav).mono ?_
    rintro e w' ⟨rfl, v', k, r, gr⟩
    exact ⟨rfl, i, v', hi, k, by rw [app_put, hgd]; exact key i _ w' v' r gr, gr⟩
  | cut i n =>
    obtain ⟨rfl, hi, c1, c2⟩ := hx
    obtain ⟨u, l, hu, hls, hru, hgd⟩ := hl.get hi
    refine (cut1_any w T g o cur i u l n g1 g2 ⟨hc, t1, t2, t3, hi, hfit, (hat i hi).trans hu, hru⟩ c1 c2).mono ?_
    rintro e w' ⟨rfl, v', k, r, gr⟩
    exact ⟨rfl, i, v', hi, k, by rw [app_cut, hgd]; exact key i _ w' v' r gr, gr⟩

theorem stf_now [Inhabited (Option Nat)] (w : World) (D S : Nat) (vs ns : List Value) (wv : Value) (css : List (List Value)) (k : Dk) (F g1 g2 : Nat) (x : St) (hd : DkV w D S vs ns wv css k) (hx : StF w F g1 g2 x) (hlen : ∀ l ∈ app k.now x, l.length ≤ 100000000) (hav : Av w.heap.size) :
    Calls Try.prog F #[.pointer (some ⟨D, 1, none⟩), .pointer (some ⟨g1, 0, none⟩), .pointer (some ⟨g2, 0, none⟩)] w fun e w' => e = .returned (.tuple #[]) ∧ ∃ ns', DkV w' D S vs ns' wv css { k with now := app k.now x } ∧ w.grownBy w' (some D) := by
  refine (stf_any w 65 D 1 _ ns k.now F g1 g2 x hx hd.cd (by decide) (by decide) (by decide) (by rw [dkC_length hd.ln.1]; omega) (fun i hi => by rw [Nat.add_comm]; exact dkC_now hd.ln.1 hi) hd.ln hlen hav).mono ?_
  rintro e w' ⟨rfl, i, v', hi, c, l, g⟩
  refine ⟨rfl, ns.set i v', ?_, g⟩
  have hk : Kt [65] w w' := Kt.grown g (fun j hj => by simp only [Option.some.injEq] at hj; exact hj ▸ hd.cd.tag) (by simp)
  rw [Nat.add_comm, dkC_setNow hd.ln.1 hi] at c
  exact ⟨c, hd.cs.kt hk (by decide), hd.lv.kt hk (by decide), l, hd.wt.kt hk (by decide), hd.wl, fun j y cs hy hc => (hd.ws j y cs hy hc).kt hk (by decide) (by decide) (by decide)⟩

theorem stf_set [Inhabited (Option Nat)] (w : World) (D S : Nat) (vs ns : List Value) (wv : Value) (css : List (List Value)) (k : Dk) (F g1 g2 : Nat) (x : St) (hd : DkV w D S vs ns wv css k) (hx : StF w F g1 g2 x) (hlen : ∀ l ∈ app k.set x, l.length ≤ 100000000) (hav : Av w.heap.size) :
    Calls Try.prog F #[.pointer (some ⟨S, 0, none⟩), .pointer (some ⟨g1, 0, none⟩), .pointer (some ⟨g2, 0, none⟩)] w fun e w' => e = .returned (.tuple #[]) ∧ ∃ vs', DkV w' D S vs' ns wv css { k with set := app k.set x } ∧ w.grownBy w' (some S) := by
  refine (stf_any w 62 S 0 vs vs k.set F g1 g2 x hx hd.cs (by decide) (by decide) (by decide) (by rw [hd.lv.1]; omega) (fun i hi => by rw [Nat.zero_add]) hd.lv hlen hav).mono ?_
  rintro e w' ⟨rfl, i, v', hi, c, l, g⟩
  refine ⟨rfl, vs.set i v', ?_, g⟩
  have hk : Kt [62] w w' := Kt.grown g (fun j hj => by simp only [Option.some.injEq] at hj; exact hj ▸ hd.cs.tag) (by simp)
  rw [Nat.zero_add] at c
  exact ⟨hd.cd.kt hk (by decide), c, l, hd.ln.kt hk (by decide), hd.wt.kt hk (by decide), hd.wl, fun j y cs hy hc => (hd.ws j y cs hy hc).kt hk (by decide) (by decide) (by decide)⟩

set_option maxRecDepth 100000 in
set_option maxHeartbeats 1000000 in
theorem adds_any [Inhabited (Option Nat)] (w : World) (i : Nat) (hi : i < 16) (v : Value) (b : Bs) (hr : RdU w v b) :
    Calls Try.prog 42 #[.int .i64 (i : Int), v] w fun e w' => ∃ g1 g2, e = .returned (.agg (stV 66 g1 g2 (i : Int) v).toArray) ∧ StC w' (stV 66 g1 g2 (i : Int) v) (.put i b) ∧ Below w.heap.size w w' := by
  have hr' := hr
  obtain ⟨a, c, rfl⟩ := hr'.slice
  have HR := Lib.hid hr
  have HI := Lib.hid hi
  clear hr hr' hi
  go_enter Try.func42, Try.ntmps42
  go_wp2_with (with_reducible refine stopStore 78 ?_)
  refine Stop.go ?_
  obtain ⟨w1, h1, k1, b1, s1⟩ := alloc_cb w 3 [.int .i64 (i : Int)]
  obtain ⟨w2, h2, k2, b2, s2⟩ := alloc_cb w1 29 [.slice a b.length c]
  obtain ⟨w3, h3, k3, b3, s3⟩ := alloc_cb w2 78 [.nilFunc, .int .i64 0, .slice none 0 0]
  rw [s1] at k2 s2
  rw [s2] at k3
  have K1 := Lib.hid ((k1.fresh b2).fresh b3)
  have K2 := Lib.hid (k2.fresh b3)
  have K3 := Lib.hid k3
  have BB := Lib.hid ((b1.tr b2).tr b3)
  have SZ : Hid (w3.heap.size = w.heap.size + 1 + 1 + 1) := Lib.hid (by rw [s3, s2])
  change wpList _ _ _ _ _ (((w.alloc (.cells [.int .i64 (i : Int)].toArray 3)).alloc (.cells [.slice a b.length c].toArray 29)).alloc (.cells [.nilFunc, .int .i64 0, .slice none 0 0].toArray 78))
  rw [← h1, ← h2, ← h3]
  clear h1 k1 b1 s1 h2 k2 b2 s2 h3 k3 b3 s3
  refine wpList_store_var rfl 78 (.tmp 4) (.tmp 8) rfl (w.heap.size + 1 + 1) _ rfl _ (stV 66 w.heap.size (w.heap.size + 1) (i : Int) (.slice a b.length c)) rfl K3.out rfl (by simp [stV, Value.oneCell']) infoStep ?_
  intro w4 k4 o4
  have B4 := Lib.hid (Below.only BB.out o4 (by omega))
  have R4 : Hid (RdU w4 (.slice a b.length c) b) := Lib.hid ((HR.out.fresh BB.out).only o4 K3.out.tag (by decide))
  have C1 := Lib.hid (K1.out.only o4 (by omega))
  have C2 := Lib.hid (K2.out.only o4 (by omega))
  have K4 := Lib.hid k4
  clear k4 o4
  go_wp2
  exact bodyPost_ret (results_cell1 rfl _ _ (w.heap.size + 1 + 1) _ _ _ _ rfl K4.out Try.underlying78 rfl infoStep) rfl ⟨_, _, rfl, ⟨HI.out, _, _, _, rfl, C1.out, C2.out, R4.out⟩, B4.out⟩

theorem infoStepZ : (Try.prog.info? 78).map (fun i => (i.zero, i.size, i.bytes)) = some (some (.agg #[.nilFunc, .int .i64 0, .slice none 0 0]), 3, 40) := by kernel_rfl

/-- A step more waits. -/
theorem DkV.waits [Inhabited (Option Nat)] {w w' w'' : World} {D S : Nat} {vs ns : List Value} {wv v' : Value} {css : List (List Value)} {k : Dk} {cs : List Value} {x : St} (h : DkV w D S vs ns wv css k) (g : w.grownBy w' wv.ownBlock)
    (hv : VwS w' 78 3 v' (k.wait.length + 1) (css.flatten ++ cs)) (hc : CB w'' 65 D ((dkC S ns wv k.fuse k.armed k.dead).set 17 v')) (ho : Only D w' w'') (hs : StC w cs x) :
    DkV w'' D S vs ns v' (css ++ [cs]) { k with wait := k.wait ++ [x] } := by
  have k1 : Kt [78] w w' := Kt.grown g (fun j hj => h.wt.tag j hj) (by simp)
  have td : Tag w' D 65 := (h.cd.kt k1 (by decide)).tag
  have k2 : Kt [65] w' w'' := Kt.only ho td (by simp)
  rw [dkC_setWait h.ln.1] at hc
  refine ⟨hc, (h.cs.kt k1 (by decide)).kt k2 (by decide), (h.lv.kt k1 (by decide)).kt k2 (by decide), (h.ln.kt k1 (by decide)).kt k2 (by decide), ?_, by simp [h.wl], fun i y c hy hcc => ?_⟩
  · have := hv.kt k2 (by decide)
    simpa using this
  · have hkt : ∀ {c y}, StC w c y → StC w'' c y := fun q => (q.kt k1 (by decide) (by decide) (by decide)).kt k2 (by decide) (by decide) (by decide)
    by_cases hi : i < k.wait.length
    · rw [List.getElem?_append_left hi] at hy
      rw [List.getElem?_append_left (by rw [h.wl]; exact hi)] at hcc
      exact hkt (h.ws i y c hy hcc)
    · have hi2 : i < (k.wait ++ [x]).length := (List.getElem?_eq_some_iff.1 hy).1
      have e : i = k.wait.length := by simp at hi2; omega
      subst e
      rw [List.getElem?_concat_length] at hy
      rw [← h.wl, List.getElem?_concat_length] at hcc
      cases hy; cases hcc
      exact hkt hs

theorem run_put1 (args : Array Value) (w : World) : (callFunc 66 args).run Try.prog w = .ok (.enter 66 args) w := by kernel_rfl
theorem run_cut1 (args : Array Value) (w : World) : (callFunc 61 args).run Try.prog w = .ok (.enter 61 args) w := by kernel_rfl
theorem StF.run [Inhabited (Option Nat)] {w : World} {F g1 g2 : Nat} {x : St} (h : StF w F g1 g2 x) (args : Array Value) (w' : World) : (callFunc F args).run Try.prog w' = .ok (.enter F args) w' := by
  cases x with
  | put i b =>
    obtain ⟨rfl, _⟩ := h
    exact run_put1 args w'
  | cut i n =>
    obtain ⟨rfl, _⟩ := h
    exact run_cut1 args w'

/-- A step put. -/
def putK (k : Dk) (x : St) : Dk := if k.dead then k else { (burnK k).2 with now := app k.now x, wait := k.wait ++ [x] }

theorem burnK_alive {k : Dk} (h : k.dead = false) : (burnK k).1 ≠ 20 ∧ (burnK k).2.now = k.now ∧ (burnK k).2.wait = k.wait ∧ (burnK k).2.set = k.set := by
  unfold burnK
  rw [h]
  simp only [Bool.false_eq_true, if_false]
  split
  · split
    · exact ⟨by simp, rfl, rfl, rfl⟩
    · exact ⟨by simp, rfl, rfl, rfl⟩
  · exact ⟨by simp, rfl, rfl, rfl⟩

set_option maxRecDepth 100000 in
set_option maxHeartbeats 2000000 in
theorem put_any [Inhabited (Option Nat)] (w : World) (D S : Nat) (wv : Value) (k : Dk) (h : DkAt w D S wv k) (F g1 g2 : Nat) (i : Int) (a : Option Addr) (n c : Nat) (x : St) (hx : StC w (stV F g1 g2 i (.slice a n c)) x) (hxf : StF w F g1 g2 x)
    (hf : 0 ≤ k.fuse) (hf' : k.fuse ≤ 9223372036854775807) (hlen : ∀ l ∈ app k.now x, l.length ≤ 100000000) (hw : k.wait.length ≤ 1000000) (hav : Av w.heap.size) :
    Calls Try.prog 60 #[.pointer (some ⟨D, 0, none⟩), .agg (stV F g1 g2 i (.slice a n c)).toArray] w fun e w' => e = .returned (.int .i64 (burnK k).1) ∧ ∃ wv', DkAt w' D S wv' (putK k x) ∧ Mv D S wv w w' ∧ Grew w wv wv' := by
  obtain ⟨cs, hcs⟩ : ∃ cs, cs = stV F g1 g2 i (.slice a n c) := ⟨_, rfl⟩
  obtain ⟨w1, h1, k1, b1, s1⟩ := alloc_cb w 78 (stV F g1 g2 i (.slice a n c))
  have BU := Lib.hid (burn_any w1 D S wv k (h.fresh b1) hf hf')
  have K1 := Lib.hid k1
  have B1 := Lib.hid b1
  have X1 := Lib.hid (And.intro (hx.fresh b1) (hxf.fresh b1))
  have LEN := Lib.hid hlen
  have WB : Hid (∀ g, wv.ownBlock = some g → g < w.heap.size) := Lib.hid (fun g hg => by obtain ⟨vs, ns, css, h⟩ := h; exact (h.wt.tag g hg).lt)
  have D1 := Lib.hid (h.fresh b1)
  have HW := Lib.hid hw
  have AV := Lib.hid hav
  have H1 := Lib.hid h1
  clear h hx hxf hf hf' hlen hw h1 k1 b1 s1 hcs hav
  cases hd : k.dead
  case true =>
    have e1 : Hid (burnK k = (20, k)) := Lib.hid (by simp [burnK, hd])
    have e2 : Hid (putK k x = k) := Lib.hid (by simp [putK, hd])
    rw [e1.out] at BU ⊢
    rw [e2.out]
    clear hd e1 e2
    go_enter Try.func60, Try.ntmps60
    go_wp2_with fail
    change Calls _ _ _ (w.alloc (.cells (stV F g1 g2 i (.slice a n c)).toArray 78)) _
    rw [← H1.out]
    refine BU.out.mono ?_
    rintro e w2 ⟨rfl, d2, m2⟩
    have D2 := Lib.hid (And.intro d2 m2)
    clear d2 m2
    go_wp2
    go_ret
    exact ⟨rfl, wv, D2.out.1, (Mv.fresh B1.out).tr' D2.out.2, fun k hk => .inl hk⟩
  case false =>
    obtain ⟨q1, q2, q3, q4⟩ := burnK_alive hd
    have e2 : putK k x = { (burnK k).2 with now := app k.now x, wait := k.wait ++ [x] } := by simp [putK, hd]
    rw [e2]
    obtain ⟨r, hr⟩ : ∃ r, r = (burnK k).1 := ⟨_, rfl⟩
    obtain ⟨k2, hk2⟩ : ∃ k2, k2 = (burnK k).2 := ⟨_, rfl⟩
    rw [← hr] at q1 BU ⊢
    rw [← hk2] at q2 q3 q4 BU ⊢
    have Q := Lib.hid (And.intro q2 (And.intro q3 q4))
    clear hd e2 hr hk2 q2 q3 q4
    go_enter Try.func60, Try.ntmps60
    go_wp2_with fail
    change Calls _ _ _ (w.alloc (.cells (stV F g1 g2 i (.slice a n c)).toArray 78)) _
    rw [← H1.out]
    refine BU.out.mono ?_
    rintro e w2 ⟨rfl, d2, m2⟩
    obtain ⟨vs, ns, css, hd2⟩ := d2
    obtain ⟨av, cv, rfl⟩ := hd2.wt.slice
    have k2' : CB w2 78 w.heap.size (stV F g1 g2 i (.slice a n c)) := K1.out.kept (by
      obtain ⟨vs0, ns0, css0, hd1⟩ := D1.out
      exact m2.block _ K1.out.lt (K1.out.tag.ne hd1.cd.tag (by decide)) (K1.out.tag.ne hd1.cs.tag (by decide)) (fun e => by have := WB.out _ e; omega))
    have kt := m2.kt D1.out
    have X2 := Lib.hid (And.intro (X1.out.1.kt kt (by decide) (by decide) (by decide)) (X1.out.2.kt kt (by decide) (by decide) (by decide)))
    have M2 := Lib.hid m2
    have SZ : Hid (w.heap.size < w2.heap.size) := Lib.hid k2'.lt
    clear m2 kt
    have CN := Lib.hid (stf_now w2.drew D S vs ns _ css k2 F g1 g2 x (hd2.fresh (Below.refl _ w2).drew) (X2.out.2.fresh (Below.refl _ w2).drew) (by rw [Q.out.1]; exact LEN.out) (AV.out.mono (Nat.le_trans B1.out.size M2.out.size)))
    have hS : Hid (CB w2.drew 78 w.heap.size (stV F g1 g2 i (.slice a n c))) := Lib.hid k2'.drew
    have HD2 := Lib.hid hd2
    clear hd2 k2'
    go_wp2_with fail
    refine pl_start 6 rfl (fun w' => CB w' 78 w.heap.size (stV F g1 g2 i (.slice a n c))) (by kernel_rfl) ?_
    refine pl_take (i := 0) 10 rfl rfl rfl (by kernel_rfl) (by kernel_rfl) (by kernel_rfl) (by simp [Act.put]) hS.out ?_
    apply Exists.intro
    refine And.intro (fun w' hS' => ?_) ?_
    · clear hS'
      go_wp2
      first
        | exact ⟨trivial, rfl⟩
        | exact rfl
    refine pl_take (i := 1) 11 rfl rfl rfl (by kernel_rfl) (by kernel_rfl) (by kernel_rfl) (by simp [Act.put]) hS.out ?_
    apply Exists.intro
    refine And.intro (fun w' hS' => ?_) ?_
    · have hc := hS'.cell 0 _ rfl
      clear hS'
      go_wp2
      first
        | exact ⟨trivial, rfl⟩
        | exact rfl
    refine pl_take (i := 2) 12 rfl rfl rfl (by kernel_rfl) (by kernel_rfl) (by kernel_rfl) (by simp [Act.put]) hS.out ?_
    apply Exists.intro
    refine And.intro (fun w' hS' => ?_) ?_
    · go_wp2
      first
        | exact ⟨trivial, rfl⟩
        | exact rfl
    refine pl_take (i := 3) 13 rfl rfl rfl (by kernel_rfl) (by kernel_rfl) (by kernel_rfl) (by simp [Act.put]) hS.out ?_
    apply Exists.intro
    refine And.intro (fun w' hS' => ?_) ?_
    · go_wp2
      first
        | exact ⟨trivial, rfl⟩
        | exact rfl
    refine pl_take (i := 4) 14 rfl rfl rfl (by kernel_rfl) (by kernel_rfl) (by kernel_rfl) (by simp [Act.put]) hS.out ?_
    apply Exists.intro
    refine And.intro (fun w' hS' => ?_) ?_
    · go_wp2
      first
        | exact ⟨trivial, rfl⟩
        | exact rfl
    refine pl_heavy (i := 5) rfl (by kernel_rfl) ?_
    go_wp2_with fail
    rw [X2.out.2.run, Oper.upon_enter]
    refine CN.out.mono ?_
    rintro e w3 ⟨rfl, ns3, d3, g3⟩
    have kt3 : Kt [65] w2.drew w3 := Kt.grown g3 (fun j hj => by simp only [Option.some.injEq] at hj; exact hj ▸ HD2.out.cd.tag) (by simp)
    have X3 := Lib.hid (X2.out.1.fresh (Below.refl _ w2).drew |>.kt kt3 (by decide) (by decide) (by decide))
    have M3 : Hid (Mv D S (.slice av k2.wait.length cv) w2 w3) := Lib.hid ((Mv.fresh (Below.refl _ w2).drew).tr' (Mv.gD g3))
    have k3 := hS.out.kt kt3 (by decide)
    clear hS CN kt3 g3
    have hS := Lib.hid k3
    have D3 := Lib.hid d3
    clear k3 d3
    go_wp2
    refine And.intro hS.out ?_
    refine pl_done (by kernel_rfl) ?_
    obtain ⟨i0, hi0, hz0, hz1, hz2⟩ := info_parts infoStepZ
    have HU := Lib.hid (And.intro hi0 (And.intro hz0 (And.intro hz1 hz2)))
    clear hi0 hz0 hz1 hz2
    obtain ⟨cur, hcur⟩ : ∃ cur, cur = dkC S ns3 (.slice av k2.wait.length cv) k2.fuse k2.armed k2.dead := ⟨_, rfl⟩
    have hq : CB w3 65 D cur := by rw [hcur]; exact D3.out.cd
    have HC : Hid (cur[17]? = some (.slice av k2.wait.length cv) ∧ cur.length = 21) := Lib.hid (by rw [hcur]; exact ⟨dkC_tail D3.out.ln.1 0, dkC_length D3.out.ln.1⟩)
    have HCUR := Lib.hid hcur
    have hS4 : Hid (CB w3.drew 65 D cur ∧ CB w3.drew 78 w.heap.size (stV F g1 g2 i (.slice a n c))) := Lib.hid ⟨hq.drew, hS.out.drew⟩
    have D3' := Lib.hid (D3.out.fresh (Below.refl _ w3).drew)
    clear hq hcur hS
    go_wp2_with fail
    refine pf_start 11 rfl (fun w' => CB w' 65 D cur ∧ CB w' 78 w.heap.size (stV F g1 g2 i (.slice a n c))) (fun i => i == 10) (by kernel_rfl) ?_
    refine pf_take (i := 0) 16 rfl rfl rfl (by kernel_rfl) (by kernel_rfl) (by kernel_rfl) (by kernel_rfl) (by kernel_rfl) (by simp [Act.put]) hS4.out ?_
    apply Exists.intro
    refine And.intro (fun w' hS' => ?_) ?_
    · clear hS'
      go_wp2
      first
        | exact ⟨trivial, rfl⟩
        | exact rfl
    refine pf_take (i := 1) 17 rfl rfl rfl (by kernel_rfl) (by kernel_rfl) (by kernel_rfl) (by kernel_rfl) (by kernel_rfl) (by simp [Act.put]) hS4.out ?_
    apply Exists.intro
    refine And.intro (fun w' hS' => ?_) ?_
    · clear hS'
      go_wp2
      first
        | exact ⟨trivial, rfl⟩
        | exact rfl
    refine pf_take (i := 2) 18 rfl rfl rfl (by kernel_rfl) (by kernel_rfl) (by kernel_rfl) (by kernel_rfl) (by kernel_rfl) (by simp [Act.put]) hS4.out ?_
    apply Exists.intro
    refine And.intro (fun w' hS' => ?_) ?_
    · clear hS'
      go_wp2
      first
        | exact ⟨trivial, rfl⟩
        | exact rfl
    refine pf_take (i := 3) 19 rfl rfl rfl (by kernel_rfl) (by kernel_rfl) (by kernel_rfl) (by kernel_rfl) (by kernel_rfl) (by simp [Act.put]) hS4.out ?_
    apply Exists.intro
    refine And.intro (fun w' hS' => ?_) ?_
    · clear hS'
      go_wp2
      first
        | exact ⟨trivial, rfl⟩
        | exact rfl
    refine pf_take (i := 4) 20 rfl rfl rfl (by kernel_rfl) (by kernel_rfl) (by kernel_rfl) (by kernel_rfl) (by kernel_rfl) (by simp [Act.put]) hS4.out ?_
    apply Exists.intro
    refine And.intro (fun w' hS' => ?_) ?_
    · have hc := hS'.1.cell 17 _ HC.out.1
      clear hS'
      go_wp2
      first
        | exact ⟨trivial, rfl⟩
        | exact rfl
    refine pf_take (i := 5) 21 rfl rfl rfl (by kernel_rfl) (by kernel_rfl) (by kernel_rfl) (by kernel_rfl) (by kernel_rfl) (by simp [Act.put]) hS4.out ?_
    apply Exists.intro
    refine And.intro (fun w' hS' => ?_) ?_
    · refine wpList_load_agg rfl 78 (.tmp 3) rfl ⟨w.heap.size, 0, none⟩ rfl [.func (.func F) #[] #[.pointer (some ⟨g1, 0, none⟩), .pointer (some ⟨g2, 0, none⟩)], .int .i64 i, .slice a n c] _ (At.block hS'.2).load Try.underlying78 rfl (by exact infoStep) ?_
      clear hS'
      go_wp2
      first
        | exact ⟨trivial, rfl⟩
        | exact rfl
    obtain ⟨wd, hwd⟩ : ∃ wd, wd = w3.drew := ⟨_, rfl⟩
    have BD : Hid (Below w3.heap.size w3 wd) := Lib.hid (by rw [hwd]; exact (Below.refl _ w3).drew)
    rw [← hwd] at hS4 D3' ⊢
    clear hwd
    refine pf_heavy (i := 6) rfl (by kernel_rfl) ?_
    go_wp2
    obtain ⟨w6, h6, k6, b6, s6⟩ := alloc_cb wd 78 (stV F g1 g2 i (.slice a n c))
    have q := And.intro (hS4.out.1.fresh b6) (hS4.out.2.fresh b6)
    refine And.intro (by rw [h6] at q; exact q) ?_
    change wpAnyF _ _ _ _ _ _ _ _ (wd.alloc (.cells (stV F g1 g2 i (.slice a n c)).toArray 78))
    rw [← h6]
    clear h6 hS4
    have hS4 := Lib.hid q
    have K6 : Hid (Rd w6 3 (.slice (some ⟨wd.heap.size, 0, none⟩) 1 1) 1 (stV F g1 g2 i (.slice a n c))) := Lib.hid ⟨rfl, .inr ⟨_, _, rfl, Nat.le_refl _, by unfold maxLen; omega, fun j u hj => by rw [add_at, Nat.zero_add]; exact k6.cell j u hj⟩⟩
    have D6 := Lib.hid (D3'.out.fresh b6)
    have X6 := Lib.hid ((X3.out.fresh BD.out).fresh b6)
    have B6 := Lib.hid (BD.out.tr b6)
    clear q k6 b6 s6 D3' BD
    refine pf_heavy (i := 7) rfl (by kernel_rfl) ?_
    refine wpList_append_vs _ rfl (.tmp 20) (.tmp 22) 63 rfl 78 i0 _ 3 40 Try.underlying63 HU.out.1 HU.out.2.1 HU.out.2.2.1 HU.out.2.2.2 rfl (by decide) (.slice av k2.wait.length cv) k2.wait.length css.flatten rfl D6.out.wt _ 1 _ rfl K6.out (by simp [stV, Value.oneCell']) (by have := HW.out; rw [← Q.out.2.1] at this; unfold maxLen; omega) (by have := HW.out; rw [← Q.out.2.1] at this; omega) ?_
    intro v' w7 hv7 g7 gr7
    obtain ⟨a7, c7, rfl⟩ := hv7.slice
    have kt7 : Kt [78] w6 w7 := Kt.grown g7 (fun j hj => D6.out.wt.tag j hj) (by simp)
    have hb7 := hS4.out.2.kept (g7.block _ hS4.out.2.lt (fun e => by have := WB.out _ e.symm; omega))
    have hS7 : Hid (CB w7 65 D cur ∧ CB w7 78 w.heap.size (stV F g1 g2 i (.slice a n c))) := Lib.hid ⟨hS4.out.1.kt kt7 (by decide), hb7⟩
    have V7 := Lib.hid (And.intro hv7 (And.intro g7 gr7))
    clear hv7 g7 gr7 kt7 hb7 hS4
    go_wp2
    refine And.intro hS7.out ?_
    refine pf_free (i := 8) 24 rfl rfl rfl (by kernel_rfl) (by kernel_rfl) (by kernel_rfl) rfl (by simp [Act.put]) (fun _ => hS7.out) ?_
    apply Exists.intro
    refine And.intro (fun w' => ?_) ?_
    · go_wp2
      first
        | exact ⟨trivial, rfl⟩
        | exact rfl
    refine pf_take (i := 9) 25 rfl rfl rfl (by kernel_rfl) (by kernel_rfl) (by kernel_rfl) (by kernel_rfl) (by kernel_rfl) (by simp [Act.put]) hS7.out ?_
    apply Exists.intro
    refine And.intro (fun w' hS' => ?_) ?_
    · clear hS'
      go_wp2
      first
        | exact ⟨trivial, rfl⟩
        | exact rfl
    refine pf_last (i := 10) rfl (by kernel_rfl) (by kernel_rfl) ?_
    refine wpList_store_cell rfl 63 (.tmp 25) (.tmp 23) rfl D 17 65 rfl cur (.slice a7 (k2.wait.length + 1) c7) rfl rfl hS7.out.1 (by rw [HC.out.2]; omega) infoSlS ?_
    intro w8 k8 o8
    rw [HCUR.out] at k8
    have D8 := Lib.hid (D6.out.waits V7.out.2.1 V7.out.1 k8 o8 X6.out)
    have M8 : Hid (Mv D S (.slice av k2.wait.length cv) w6 w8) := Lib.hid ((Mv.row V7.out.2.1).tr' (Mv.disk o8))
    clear k8 o8
    go_wp2
    refine pf_done (by kernel_rfl) ?_
    go_wp2
    go_ret
    have D9 : DkV w8 D S vs ns3 (.slice a7 (k2.wait.length + 1) c7) (css ++ [stV F g1 g2 i (.slice a n c)]) { k2 with now := app k.now x, wait := k.wait ++ [x] } := by
      have := D8.out
      rw [Q.out.1, show k2.wait ++ [x] = k.wait ++ [x] by rw [Q.out.2.1]] at this
      exact this
    refine ⟨rfl, _, ⟨_, _, _, D9⟩, ?_, ?_⟩
    · exact ((((Mv.fresh B1.out).tr' M2.out).tr' M3.out).tr' (Mv.fresh B6.out)).tr' M8.out
    · intro j hj
      rcases V7.out.2.2 j hj with h | h
      · exact .inl h
      · exact .inr (Nat.le_trans (Nat.le_trans (Nat.le_trans B1.out.size M2.out.size) (Nat.le_trans M3.out.size B6.out.size)) h)

end Go.Proofs.Ytbbbgpdhdlknjaa
