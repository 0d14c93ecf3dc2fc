/- Disks: the document's disk: how it lies, logs behind a step: the walks. -/
import Derived.Test.YtbbbgpdhdlknjaaDw
import Derived.Test.YtbbbgpdhdlknjaaRowS
namespace Go.Proofs.Ytbbbgpdhdlknjaa
set_option linter.unusedVariables false
set_option linter.unusedSimpArgs false
open Go.RowKit Go.Lib

theorem infoL16 : (Try.prog.info? 38).map (·.size) = some 16 := by kernel_rfl
theorem infoPut : (Try.prog.info? 83).map (·.size) = some 4 := by kernel_rfl
theorem infoPutZ : (Try.prog.info? 83).map (fun i => (i.zero, i.size, i.bytes)) = some (some (.agg #[.int .i64 0, .int .i64 0, .bool false, .slice none 0 0]), 4, 48) := by kernel_rfl
theorem infoRD : (Try.prog.info? 41).map (·.size) = some 19 := by kernel_rfl
theorem infoSlP : (Try.prog.info? 39).map (·.size) = some 1 := by kernel_rfl

theorem wpList_box {P : Program} {ops : Array Oper} {rest : List Oper} {o : Oper} {a : Act} {w : World} {Q : Exit → Act → World → Prop} (hg : o.guard = none) (t : TypeId) (x : Operand) (ho : o.op = .box t x)
    (cs : List Value) (hx : (a.eval x).cells = cs.toArray)
    (h : ∀ w', CB w' t w.heap.size cs → Below w.heap.size w w' → w'.heap.size = w.heap.size + 1 → wpList P ops Q rest (a.put o.dst (.pointer (some ⟨w.heap.size, 0, none⟩))) w') : wpList P ops Q (o :: rest) a w := by
  refine wpList_plain hg fun K hK => ?_
  unfold Oper.wp execOp
  obtain ⟨w', hw, k, b, s⟩ := alloc_cb w t cs
  simp only [ho, Sem.run_bind, Instr.box, newVar, newRow, run_newObj_alloc, Sem.run_pure, Result.andThen_ok, hx]
  rw [← hw]
  exact hK _ _ (h w' k b s)

/-- A step of the document's. -/
def PtC (w : World) (cs : List Value) : St → Prop
  | .put i b => i < 16 ∧ ∃ v, cs = [.int .i64 (i : Int), .int .i64 0, .bool false, v] ∧ RdU w v b
  | .cut i n => i < 16 ∧ cs = [.int .i64 (i : Int), .int .i64 (n : Int), .bool true, .slice none 0 0]

theorem PtC.kt {w w' : World} {cs : List Value} {x : St} {E : List TypeId} (h : PtC w cs x) (hk : Kt E w w') (h1 : 5 ∉ E) : PtC w' cs x := by
  cases x with
  | put i b =>
    obtain ⟨hi, v, hc, hr⟩ := h
    exact ⟨hi, v, hc, hr.kt hk h1⟩
  | cut i n => exact h
theorem PtC.fresh {w w' : World} {cs : List Value} {x : St} (h : PtC w cs x) (hb : Below w.heap.size w w') : PtC w' cs x := h.kt (E := []) (Kt.fresh hb) (by simp)
theorem PtC.len {w : World} {cs : List Value} {x : St} (h : PtC w cs x) : cs.length = 4 ∧ ∀ u ∈ cs, u.oneCell' = true := by
  cases x with
  | put i b =>
    obtain ⟨hi, v, rfl, hr⟩ := h
    obtain ⟨a, c, rfl⟩ := hr.slice
    exact ⟨rfl, by simp [Value.oneCell']⟩
  | cut i n =>
    obtain ⟨hi, rfl⟩ := h
    exact ⟨rfl, by simp [Value.oneCell']⟩

theorem Lg.fresh {w w' : World} {vs : List Value} {ls : List Bs} (h : Lg w vs ls) (hb : Below w.heap.size w w') : Lg w' vs ls := h.kt (E := []) (Kt.fresh hb) (by simp)

set_option maxRecDepth 100000 in
set_option maxHeartbeats 4000000 in
theorem done_any (w : World) (ls : List Value) (l : List Bs) (cs : List Value) (x : St) (hl : Lg w ls l) (hx : PtC w cs x) (hlen : ∀ y ∈ app l x, y.length ≤ 16777216) (hl0 : ∀ y ∈ l, y.length ≤ 16777216) (hb0 : ∀ i b, x = .put i b → b.length ≤ 16777216) :
    Calls Try.prog 65 #[.agg ls.toArray, .agg cs.toArray] w fun e w' => ∃ ls', e = .returned (.agg ls'.toArray) ∧ Lg w' ls' (app l x) ∧ Below w.heap.size w w' := by
  obtain ⟨i0, hi0, hz0, hz1, hz2⟩ := info_parts infoU8
  have HU := Lib.hid (And.intro hi0 (And.intro hz0 (And.intro hz1 hz2)))
  clear hi0 hz0 hz1 hz2
  have HL := Lib.hid hl
  have HX := Lib.hid hx
  have HLEN := Lib.hid (And.intro hlen (And.intro hl0 hb0))
  clear hl hx hlen hl0 hb0
  go_enter Try.func65, Try.ntmps65
  go_wp2_with (with_reducible refine stopAt 2 ?_)
  refine Stop.go ?_
  refine wpList_box rfl 38 (.tmp 0) rfl ls rfl ?_
  intro w1 k1 b1 s1
  have K1 := Lib.hid k1
  have B1 := Lib.hid b1
  have S1 := Lib.hid s1
  clear k1 b1 s1
  go_wp2_with (with_reducible refine stopAt 3 ?_)
  refine Stop.go ?_
  refine wpList_box rfl 83 (.tmp 1) rfl cs rfl ?_
  intro w2 k2 b2 s2
  rw [S1.out] at k2 s2 ⊢
  have K2 := Lib.hid k2
  have B2 := Lib.hid (B1.out.tr b2)
  have K1' := Lib.hid (K1.out.fresh b2)
  have S2 := Lib.hid s2
  clear k2 b2 s2 K1 B1 S1
  obtain ⟨w3, h3, k3, b3, s3⟩ := alloc_cb w2 38 noLogs
  have h3' : w2.alloc (.cells #[.slice none 0 0, .slice none 0 0, .slice none 0 0, .slice none 0 0, .slice none 0 0, .slice none 0 0, .slice none 0 0, .slice none 0 0, .slice none 0 0, .slice none 0 0, .slice none 0 0, .slice none 0 0, .slice none 0 0, .slice none 0 0, .slice none 0 0, .slice none 0 0] 38) = w3 := h3.symm
  have H3 := Lib.hid h3'
  have K1 := Lib.hid (K1'.out.fresh b3)
  have K2' := Lib.hid (K2.out.fresh b3)
  have K3 := Lib.hid k3
  have B3 := Lib.hid (B2.out.tr b3)
  have S3 : Hid (w3.heap.size = w.heap.size + 3) := Lib.hid (by rw [s3, S2.out])
  clear h3 h3' k3 b3 s3 K1' K2 B2
  cases x with
  | put i b =>
    obtain ⟨hi, v, rfl, hr⟩ := HX.out
    obtain ⟨a1, c1, rfl⟩ := hr.slice
    obtain ⟨u, y, hu, hy, hry, hgd⟩ := HL.out.get hi
    obtain ⟨a2, c2, rfl⟩ := hry.slice
    obtain ⟨m, hm⟩ : ∃ m, m = b.length := ⟨_, rfl⟩
    obtain ⟨n, hn⟩ : ∃ n, n = y.length := ⟨_, rfl⟩
    have bi : (i : Int) < 16 := by omega
    have hbl : b.length ≤ 16777216 := HLEN.out.2.2 i b rfl
    have hyl : y.length ≤ 16777216 := HLEN.out.2.1 y (List.mem_of_getElem? hy)
    have bm : (m : Int) ≤ 16777216 := by omega
    have bn : (n : Int) ≤ 16777216 := by omega
    have RB := Lib.hid (hr.fresh B3.out)
    have RY := Lib.hid (hry.fresh B3.out)
    have HQ := Lib.hid (And.intro hi (And.intro hm (And.intro hn (And.intro hgd (And.intro hbl hyl)))))
    rw [← hm] at K2'
    rw [← hn] at hu
    have HUU := Lib.hid hu
    have hc2 : (w2.alloc (.cells #[.slice none 0 0, .slice none 0 0, .slice none 0 0, .slice none 0 0, .slice none 0 0, .slice none 0 0, .slice none 0 0, .slice none 0 0, .slice none 0 0, .slice none 0 0, .slice none 0 0, .slice none 0 0, .slice none 0 0, .slice none 0 0, .slice none 0 0, .slice none 0 0] 38)).cell? ⟨w.heap.size + 1, 2, none⟩ = some (.bool false) := by rw [H3.out]; exact K2'.out.cell 2 _ rfl
    clear hr hu hy hry hgd hm hn hbl hyl hi
    go_wp2_with fail
    rw [H3.out]
    clear hc2
    have hS : Hid (CB w3.drew 38 w.heap.size ls ∧ CB w3.drew 83 (w.heap.size + 1) [.int .i64 (i : Int), .int .i64 0, .bool false, .slice a1 m c1]) := Lib.hid ⟨K1.out.drew, K2'.out.drew⟩
    refine pf_start 12 rfl (fun w' => CB w' 38 w.heap.size ls ∧ CB w' 83 (w.heap.size + 1) [.int .i64 (i : Int), .int .i64 0, .bool false, .slice a1 m c1]) (fun i => i == 11) (by kernel_rfl) ?_
    obtain ⟨wd, hwd⟩ : ∃ wd, wd = w3.drew := ⟨_, rfl⟩
    have BD : Hid (Below w3.heap.size w3 wd) := Lib.hid (by rw [hwd]; exact (Below.refl _ w3).drew)
    rw [← hwd] at hS ⊢
    have HS0 := hS
    clear hwd
    refine pf_take (i := 0) 24 rfl rfl rfl (by kernel_rfl) (by kernel_rfl) (by kernel_rfl) (by kernel_rfl) (by kernel_rfl) (by simp [Act.put]) hS.out ?_
    apply Exists.intro
    refine And.intro (fun w' hS' => ?_) ?_
    · clear hS'
      go_wp2
      first
        | exact ⟨trivial, rfl⟩
        | exact rfl
    refine pf_take (i := 1) 25 rfl rfl rfl (by kernel_rfl) (by kernel_rfl) (by kernel_rfl) (by kernel_rfl) (by kernel_rfl) (by simp [Act.put]) hS.out ?_
    apply Exists.intro
    refine And.intro (fun w' hS' => ?_) ?_
    · have hc := hS'.2.cell 0 _ rfl
      clear hS'
      go_wp2
      first
        | exact ⟨trivial, rfl⟩
        | exact rfl
    refine pf_take (i := 2) 26 rfl rfl rfl (by kernel_rfl) (by kernel_rfl) (by kernel_rfl) (by kernel_rfl) (by kernel_rfl) (by simp [Act.put]) hS.out ?_
    apply Exists.intro
    refine And.intro (fun w' hS' => ?_) ?_
    · clear hS'
      go_wp2
      first
        | exact ⟨trivial, rfl⟩
        | exact rfl
    refine pf_take (i := 3) 27 rfl rfl rfl (by kernel_rfl) (by kernel_rfl) (by kernel_rfl) (by kernel_rfl) (by kernel_rfl) (by simp [Act.put]) hS.out ?_
    apply Exists.intro
    refine And.intro (fun w' hS' => ?_) ?_
    · have hc := hS'.2.cell 0 _ rfl
      clear hS'
      go_wp2
      first
        | exact ⟨trivial, rfl⟩
        | exact rfl
    refine pf_take (i := 4) 28 rfl rfl rfl (by kernel_rfl) (by kernel_rfl) (by kernel_rfl) (by kernel_rfl) (by kernel_rfl) (by simp [Act.put]) hS.out ?_
    apply Exists.intro
    refine And.intro (fun w' hS' => ?_) ?_
    · clear hS'
      go_wp2
      first
        | exact ⟨trivial, rfl⟩
        | exact rfl
    refine pf_take (i := 5) 29 rfl rfl rfl (by kernel_rfl) (by kernel_rfl) (by kernel_rfl) (by kernel_rfl) (by kernel_rfl) (by simp [Act.put]) hS.out ?_
    apply Exists.intro
    refine And.intro (fun w' hS' => ?_) ?_
    · have hc := hS'.1.cell i _ HUU.out
      clear hS'
      go_wp2
      first
        | exact ⟨trivial, rfl⟩
        | exact rfl
    refine pf_take (i := 7) 31 rfl rfl rfl (by kernel_rfl) (by kernel_rfl) (by kernel_rfl) (by kernel_rfl) (by kernel_rfl) (by simp [Act.put]) hS.out ?_
    apply Exists.intro
    refine And.intro (fun w' hS' => ?_) ?_
    · clear hS'
      go_wp2
      first
        | exact ⟨trivial, rfl⟩
        | exact rfl
    refine pf_take (i := 8) 32 rfl rfl rfl (by kernel_rfl) (by kernel_rfl) (by kernel_rfl) (by kernel_rfl) (by kernel_rfl) (by simp [Act.put]) hS.out ?_
    apply Exists.intro
    refine And.intro (fun w' hS' => ?_) ?_
    · have hc := hS'.2.cell 3 _ rfl
      clear hS'
      go_wp2
      first
        | exact ⟨trivial, rfl⟩
        | exact rfl
    refine pf_heavy (i := 6) rfl (by kernel_rfl) ?_
    refine wpList_append_rd _ rfl (.const (.slice none 0 0)) (.tmp 29) 29 rfl wd.heap.size 5 i0 (.int .u8 0) 1 1 Try.underlying29 HU.out.1 HU.out.2.1 HU.out.2.2.1 HU.out.2.2.2 rfl (by decide) (.slice none 0 0) 0 [] rfl (World.ownsRow_nil _ _ _ _) (.slice a2 n c2) n (bvs y) rfl (by have := (RY.out.fresh BD.out).1; rw [← HQ.out.2.2.1] at this; exact this) (bvs_one _) (by unfold maxLen; omega) (by omega) (Nat.le_refl _) ?_
    intro v1 w7 o7 g7 _ n7
    rw [Nat.zero_add, List.nil_append] at o7
    have b7 : Below wd.heap.size wd w7 := Below.grown (Below.refl _ wd) g7 (Nat.le_refl _) (fun j hj => by cases hj)
    obtain ⟨a7, c7, rfl⟩ := (Rd.of_own o7).slice
    have O7 := Lib.hid o7
    have B7 := Lib.hid b7
    have h1 := And.intro (hS.out.1.fresh b7) (hS.out.2.fresh b7)
    clear hS o7 g7 n7 b7
    have hS := Lib.hid h1
    clear h1
    go_wp2
    refine And.intro hS.out ?_
    refine pf_heavy (i := 9) rfl (by kernel_rfl) ?_
    refine wpList_append_rd _ rfl (.tmp 30) (.tmp 32) 29 rfl wd.heap.size 5 i0 (.int .u8 0) 1 1 Try.underlying29 HU.out.1 HU.out.2.1 HU.out.2.2.1 HU.out.2.2.2 rfl (by decide) (.slice a7 n c7) n (bvs y) rfl O7.out (.slice a1 m c1) m (bvs b) rfl (by have := ((RB.out.fresh BD.out).fresh B7.out).1; rw [← HQ.out.2.1] at this; exact this) (bvs_one _) (by unfold maxLen; omega) (by omega) B7.out.size ?_
    intro v2 w8 o8 g8 _ n8
    have b8 : Below wd.heap.size wd w8 := Below.grown B7.out g8 B7.out.size (fun j hj => (O7.out.lt j hj).1)
    have e8 : n + m = (y ++ b).length := by rw [List.length_append, HQ.out.2.1, HQ.out.2.2.1]
    rw [← bvs_append, e8] at o8
    have R8 := Lib.hid (RdU.of_own o8 (noAv _))
    obtain ⟨a8, c8, hv8⟩ := R8.out.slice
    obtain ⟨p, hp⟩ : ∃ p, p = (y ++ b).length := ⟨_, rfl⟩
    rw [← hp] at hv8
    clear hp
    subst hv8
    have h1 := And.intro (HS0.out.1.fresh b8) (HS0.out.2.fresh b8)
    have BX : Hid (Below w.heap.size w w8) := Lib.hid ((B3.out.tr BD.out).tr b8)
    have L7 := Lib.hid ((K3.out.fresh BD.out).fresh b8)
    clear hS o8 g8 n8 b8 O7 B7
    have hS := Lib.hid h1
    clear h1
    go_wp2
    refine And.intro hS.out ?_
    refine pf_take (i := 10) 34 rfl rfl rfl (by kernel_rfl) (by kernel_rfl) (by kernel_rfl) (by kernel_rfl) (by kernel_rfl) (by simp [Act.put]) hS.out ?_
    apply Exists.intro
    refine And.intro (fun w' hS' => ?_) ?_
    · clear hS'
      go_wp2
      first
        | exact ⟨trivial, rfl⟩
        | exact rfl
    refine pf_last (i := 11) rfl (by kernel_rfl) (by kernel_rfl) ?_
    refine wpList_store_cell rfl 29 (.tmp 34) (.tmp 33) rfl w.heap.size i 38 rfl ls (.slice a8 p c8) rfl rfl hS.out.1 (by rw [HL.out.1]; exact HQ.out.1) infoSl8 ?_
    intro w8' k8 o8
    have K8 := Lib.hid k8
    have B8 := Lib.hid (Below.only BX.out o8 (Nat.le_refl _))
    have L8 := Lib.hid (L7.out.only o8 (by have := S2.out; omega))
    have R8' := Lib.hid (R8.out.only o8 hS.out.1.tag (by decide))
    clear k8 o8 R8 L7 BX
    have R8 := R8'
    clear R8' e8
    go_wp2
    refine pf_done (by kernel_rfl) ?_
    go_wp2_with (with_reducible refine stopAt 35 ?_)
    refine Stop.go ?_
    refine wpList_load_agg rfl 38 (.tmp 2) rfl ⟨w.heap.size, 0, none⟩ rfl (ls.set i (.slice a8 p c8)) _ (At.block K8.out).load Try.underlying38 rfl (by rw [List.length_set, HL.out.1]; exact infoL16) ?_
    go_wp2_with (with_reducible refine stopStore 38 ?_)
    refine Stop.go ?_
    refine wpList_store_var rfl 38 (.tmp 4) (.tmp 35) rfl w2.heap.size _ rfl _ (ls.set i (.slice a8 p c8)) rfl L8.out (by rw [List.length_set, HL.out.1]; rfl) (fun u hu => by
      rcases List.mem_or_eq_of_mem_set hu with h | h
      · exact HL.out.one u h
      · rw [h]; rfl) (by rw [List.length_set, HL.out.1]; exact infoL16) ?_
    intro w9 k9 o9
    have B9 := Lib.hid (Below.only B8.out o9 (by have := S2.out; omega))
    have R9 := Lib.hid (R8.out.only o9 L8.out.tag (by decide))
    have K9 := Lib.hid k9
    clear k9 o9
    go_wp2
    refine bodyPost_ret (results_cell1 rfl _ _ w2.heap.size _ _ _ _ rfl K9.out Try.underlying38 rfl (by rw [List.size_toArray, List.length_set, HL.out.1]; exact infoL16)) rfl ⟨_, rfl, ?_, B9.out⟩
    rw [app_put, HQ.out.2.2.2.1]
    exact (HL.out.fresh B9.out).set R9.out
  | cut i q0 =>
    obtain ⟨hi, rfl⟩ := HX.out
    obtain ⟨u, y, hu, hy, hry, hgd⟩ := HL.out.get hi
    obtain ⟨a2, c2, rfl⟩ := hry.slice
    obtain ⟨n, hn⟩ : ∃ n, n = y.length := ⟨_, rfl⟩
    have bi : (i : Int) < 16 := by omega
    have hyl : y.length ≤ 16777216 := HLEN.out.2.1 y (List.mem_of_getElem? hy)
    have bn : (n : Int) ≤ 16777216 := by omega
    have RY := Lib.hid (hry.fresh B3.out)
    have HQ := Lib.hid (And.intro hi (And.intro hn (And.intro hgd hyl)))
    rw [← hn] at hu
    have HUU := Lib.hid hu
    obtain ⟨q, hq⟩ : ∃ q, q = min q0 n := ⟨_, rfl⟩
    have e : min (q0 : Int) (n : Int) = (q : Int) := by omega
    have bcn : n ≤ c2 := by
      rcases hry.1.2 with ⟨he, _⟩ | ⟨_, _, he, hnc, _⟩
      · simp only [Value.slice.injEq] at he; omega
      · simp only [Value.slice.injEq] at he; omega
    have bq : (q : Int) ≤ (c2 : Int) := by omega
    have bq2 : (q : Int) ≤ 16777216 := by omega
    have HT := Lib.hid hq
    have hc2 : (w2.alloc (.cells #[.slice none 0 0, .slice none 0 0, .slice none 0 0, .slice none 0 0, .slice none 0 0, .slice none 0 0, .slice none 0 0, .slice none 0 0, .slice none 0 0, .slice none 0 0, .slice none 0 0, .slice none 0 0, .slice none 0 0, .slice none 0 0, .slice none 0 0, .slice none 0 0] 38)).cell? ⟨w.heap.size + 1, 2, none⟩ = some (.bool true) := by rw [H3.out]; exact K2'.out.cell 2 _ rfl
    clear hu hy hry hgd hn hyl hi hq bcn
    go_wp2_with fail
    rw [H3.out]
    clear hc2
    have hS : Hid (CB w3.drew 38 w.heap.size ls ∧ CB w3.drew 83 (w.heap.size + 1) [.int .i64 (i : Int), .int .i64 (q0 : Int), .bool true, .slice none 0 0]) := Lib.hid ⟨K1.out.drew, K2'.out.drew⟩
    refine pf_start 18 rfl (fun w' => CB w' 38 w.heap.size ls ∧ CB w' 83 (w.heap.size + 1) [.int .i64 (i : Int), .int .i64 (q0 : Int), .bool true, .slice none 0 0]) (fun i => i == 17) (by kernel_rfl) ?_
    obtain ⟨wd, hwd⟩ : ∃ wd, wd = w3.drew := ⟨_, rfl⟩
    have BD : Hid (Below w3.heap.size w3 wd) := Lib.hid (by rw [hwd]; exact (Below.refl _ w3).drew)
    rw [← hwd] at hS ⊢
    have HS0 := hS
    clear hwd
    refine pf_take (i := 0) 7 rfl rfl rfl (by kernel_rfl) (by kernel_rfl) (by kernel_rfl) (by kernel_rfl) (by kernel_rfl) (by simp [Act.put]) hS.out ?_
    apply Exists.intro
    refine And.intro (fun w' hS' => ?_) ?_
    · clear hS'
      go_wp2
      first
        | exact ⟨trivial, rfl⟩
        | exact rfl
    refine pf_take (i := 1) 8 rfl rfl rfl (by kernel_rfl) (by kernel_rfl) (by kernel_rfl) (by kernel_rfl) (by kernel_rfl) (by simp [Act.put]) hS.out ?_
    apply Exists.intro
    refine And.intro (fun w' hS' => ?_) ?_
    · have hc := hS'.2.cell 0 _ rfl
      clear hS'
      go_wp2
      first
        | exact ⟨trivial, rfl⟩
        | exact rfl
    refine pf_take (i := 2) 9 rfl rfl rfl (by kernel_rfl) (by kernel_rfl) (by kernel_rfl) (by kernel_rfl) (by kernel_rfl) (by simp [Act.put]) hS.out ?_
    apply Exists.intro
    refine And.intro (fun w' hS' => ?_) ?_
    · clear hS'
      go_wp2
      first
        | exact ⟨trivial, rfl⟩
        | exact rfl
    refine pf_take (i := 3) 10 rfl rfl rfl (by kernel_rfl) (by kernel_rfl) (by kernel_rfl) (by kernel_rfl) (by kernel_rfl) (by simp [Act.put]) hS.out ?_
    apply Exists.intro
    refine And.intro (fun w' hS' => ?_) ?_
    · have hc := hS'.2.cell 0 _ rfl
      clear hS'
      go_wp2
      first
        | exact ⟨trivial, rfl⟩
        | exact rfl
    refine pf_take (i := 4) 11 rfl rfl rfl (by kernel_rfl) (by kernel_rfl) (by kernel_rfl) (by kernel_rfl) (by kernel_rfl) (by simp [Act.put]) hS.out ?_
    apply Exists.intro
    refine And.intro (fun w' hS' => ?_) ?_
    · clear hS'
      go_wp2
      first
        | exact ⟨trivial, rfl⟩
        | exact rfl
    refine pf_take (i := 5) 12 rfl rfl rfl (by kernel_rfl) (by kernel_rfl) (by kernel_rfl) (by kernel_rfl) (by kernel_rfl) (by simp [Act.put]) hS.out ?_
    apply Exists.intro
    refine And.intro (fun w' hS' => ?_) ?_
    · have hc := hS'.1.cell i _ HUU.out
      clear hS'
      go_wp2
      first
        | exact ⟨trivial, rfl⟩
        | exact rfl
    refine pf_take (i := 6) 13 rfl rfl rfl (by kernel_rfl) (by kernel_rfl) (by kernel_rfl) (by kernel_rfl) (by kernel_rfl) (by simp [Act.put]) hS.out ?_
    apply Exists.intro
    refine And.intro (fun w' hS' => ?_) ?_
    · clear hS'
      go_wp2
      first
        | exact ⟨trivial, rfl⟩
        | exact rfl
    refine pf_take (i := 7) 14 rfl rfl rfl (by kernel_rfl) (by kernel_rfl) (by kernel_rfl) (by kernel_rfl) (by kernel_rfl) (by simp [Act.put]) hS.out ?_
    apply Exists.intro
    refine And.intro (fun w' hS' => ?_) ?_
    · have hc := hS'.2.cell 1 _ rfl
      clear hS'
      go_wp2
      first
        | exact ⟨trivial, rfl⟩
        | exact rfl
    refine pf_take (i := 8) 15 rfl rfl rfl (by kernel_rfl) (by kernel_rfl) (by kernel_rfl) (by kernel_rfl) (by kernel_rfl) (by simp [Act.put]) hS.out ?_
    apply Exists.intro
    refine And.intro (fun w' hS' => ?_) ?_
    · clear hS'
      go_wp2
      first
        | exact ⟨trivial, rfl⟩
        | exact rfl
    refine pf_take (i := 9) 16 rfl rfl rfl (by kernel_rfl) (by kernel_rfl) (by kernel_rfl) (by kernel_rfl) (by kernel_rfl) (by simp [Act.put]) hS.out ?_
    apply Exists.intro
    refine And.intro (fun w' hS' => ?_) ?_
    · have hc := hS'.2.cell 0 _ rfl
      clear hS'
      go_wp2
      first
        | exact ⟨trivial, rfl⟩
        | exact rfl
    refine pf_take (i := 10) 17 rfl rfl rfl (by kernel_rfl) (by kernel_rfl) (by kernel_rfl) (by kernel_rfl) (by kernel_rfl) (by simp [Act.put]) hS.out ?_
    apply Exists.intro
    refine And.intro (fun w' hS' => ?_) ?_
    · clear hS'
      go_wp2
      first
        | exact ⟨trivial, rfl⟩
        | exact rfl
    refine pf_take (i := 11) 18 rfl rfl rfl (by kernel_rfl) (by kernel_rfl) (by kernel_rfl) (by kernel_rfl) (by kernel_rfl) (by simp [Act.put]) hS.out ?_
    apply Exists.intro
    refine And.intro (fun w' hS' => ?_) ?_
    · have hc := hS'.1.cell i _ HUU.out
      clear hS'
      go_wp2
      first
        | exact ⟨trivial, rfl⟩
        | exact rfl
    refine pf_take (i := 12) 19 rfl rfl rfl (by kernel_rfl) (by kernel_rfl) (by kernel_rfl) (by kernel_rfl) (by kernel_rfl) (by simp [Act.put]) hS.out ?_
    apply Exists.intro
    refine And.intro (fun w' hS' => ?_) ?_
    · clear hS'
      go_wp2
      first
        | exact ⟨trivial, rfl⟩
        | exact rfl
    refine pf_heavy (i := 13) rfl (by kernel_rfl) ?_
    go_wp2
    refine And.intro hS.out ?_
    clear e
    refine pf_take (i := 14) 21 rfl rfl rfl (by kernel_rfl) (by kernel_rfl) (by kernel_rfl) (by kernel_rfl) (by kernel_rfl) (by simp [Act.put]) hS.out ?_
    apply Exists.intro
    refine And.intro (fun w' hS' => ?_) ?_
    · clear hS'
      go_wp2
      first
        | exact ⟨trivial, rfl⟩
        | exact rfl
    have el : y.take q0 = y.take q := by rw [HT.out, HQ.out.2.1, List.take_eq_take_iff]; omega
    have eq : (y.take q).length = q := by have h1 := HT.out; have h2 := HQ.out.2.1; rw [List.length_take]; omega
    have RT := ((RY.out.fresh BD.out).take (q := q) (by rw [← HQ.out.2.1, HT.out]; omega)).1
    rw [eq] at RT
    refine pf_heavy (i := 15) rfl (by kernel_rfl) ?_
    refine wpList_append_rd _ rfl (.const (.slice none 0 0)) (.tmp 21) 29 rfl wd.heap.size 5 i0 (.int .u8 0) 1 1 Try.underlying29 HU.out.1 HU.out.2.1 HU.out.2.2.1 HU.out.2.2.2 rfl (by decide) (.slice none 0 0) 0 [] rfl (World.ownsRow_nil _ _ _ _) (.slice a2 q c2) q (bvs (y.take q)) rfl RT (bvs_one _) (by unfold maxLen; omega) (by omega) (Nat.le_refl _) ?_
    intro v1 w8 o8 g8 _ n8
    rw [Nat.zero_add, List.nil_append] at o8
    replace o8 : w8.ownsRow wd.heap.size 5 1 v1 (y.take q).length (bvs (y.take q)) := by rw [eq]; exact o8
    have b8 : Below wd.heap.size wd w8 := Below.grown (Below.refl _ wd) g8 (Nat.le_refl _) (fun j hj => by cases hj)
    have R8 := Lib.hid (RdU.of_own o8 (noAv _))
    obtain ⟨a8, c8, hv8⟩ := R8.out.slice
    rw [eq] at hv8
    subst hv8
    have h1 := And.intro (HS0.out.1.fresh b8) (HS0.out.2.fresh b8)
    have BX : Hid (Below w.heap.size w w8) := Lib.hid ((B3.out.tr BD.out).tr b8)
    have L7 := Lib.hid ((K3.out.fresh BD.out).fresh b8)
    have EL := Lib.hid el
    clear hS o8 g8 n8 b8 RT el eq
    have hS := Lib.hid h1
    clear h1
    go_wp2
    refine And.intro hS.out ?_
    refine pf_take (i := 16) 23 rfl rfl rfl (by kernel_rfl) (by kernel_rfl) (by kernel_rfl) (by kernel_rfl) (by kernel_rfl) (by simp [Act.put]) hS.out ?_
    apply Exists.intro
    refine And.intro (fun w' hS' => ?_) ?_
    · clear hS'
      go_wp2
      first
        | exact ⟨trivial, rfl⟩
        | exact rfl
    refine pf_last (i := 17) rfl (by kernel_rfl) (by kernel_rfl) ?_
    refine wpList_store_cell rfl 29 (.tmp 23) (.tmp 22) rfl w.heap.size i 38 rfl ls (.slice a8 q c8) rfl rfl hS.out.1 (by rw [HL.out.1]; exact HQ.out.1) infoSl8 ?_
    intro w8' k8 o8
    have K8 := Lib.hid k8
    have B8 := Lib.hid (Below.only BX.out o8 (Nat.le_refl _))
    have L8 := Lib.hid (L7.out.only o8 (by have := S2.out; omega))
    have R8' := Lib.hid (R8.out.only o8 hS.out.1.tag (by decide))
    clear k8 o8 R8 L7 BX
    have R8 := R8'
    clear R8'
    go_wp2
    refine pf_done (by kernel_rfl) ?_
    go_wp2_with (with_reducible refine stopAt 35 ?_)
    refine Stop.go ?_
    refine wpList_load_agg rfl 38 (.tmp 2) rfl ⟨w.heap.size, 0, none⟩ rfl (ls.set i (.slice a8 q c8)) _ (At.block K8.out).load Try.underlying38 rfl (by rw [List.length_set, HL.out.1]; exact infoL16) ?_
    go_wp2_with (with_reducible refine stopStore 38 ?_)
    refine Stop.go ?_
    refine wpList_store_var rfl 38 (.tmp 4) (.tmp 35) rfl w2.heap.size _ rfl _ (ls.set i (.slice a8 q c8)) rfl L8.out (by rw [List.length_set, HL.out.1]; rfl) (fun u hu => by
      rcases List.mem_or_eq_of_mem_set hu with h | h
      · exact HL.out.one u h
      · rw [h]; rfl) (by rw [List.length_set, HL.out.1]; exact infoL16) ?_
    intro w9 k9 o9
    have B9 := Lib.hid (Below.only B8.out o9 (by have := S2.out; omega))
    have R9 := Lib.hid (R8.out.only o9 L8.out.tag (by decide))
    have K9 := Lib.hid k9
    clear k9 o9
    go_wp2
    refine bodyPost_ret (results_cell1 rfl _ _ w2.heap.size _ _ _ _ rfl K9.out Try.underlying38 rfl (by rw [List.size_toArray, List.length_set, HL.out.1]; exact infoL16)) rfl ⟨_, rfl, ?_, B9.out⟩
    rw [app_cut, HQ.out.2.2.1, EL.out]
    exact (HL.out.fresh B9.out).set R9.out

end Go.Proofs.Ytbbbgpdhdlknjaa
