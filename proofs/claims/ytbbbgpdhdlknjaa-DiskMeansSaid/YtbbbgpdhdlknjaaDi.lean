/- Disks: steps settled: the walk. -/
import Derived.Test.YtbbbgpdhdlknjaaDh
namespace Go.Proofs.Ytbbbgpdhdlknjaa
set_option linter.unusedVariables false
set_option linter.unusedSimpArgs false
open Go.RowKit Go.Lib

theorem flat_get {α : Type} (f : α → List Value) (s : Nat) (l : List α) (hf : ∀ x ∈ l, (f x).length = s) {i : Nat} {x : α} (hi : l[i]? = some x) (j : Nat) (u : Value) (hj : (f x)[j]? = some u) : (l.flatMap f)[i * s + j]? = some u := by
  induction l generalizing i with
  | nil => simp at hi
  | cons y l ih =>
    have hy := hf y (by simp)
    rw [List.flatMap_cons]
    rcases i with _ | i
    · simp at hi; subst hi
      rw [Nat.zero_mul, Nat.zero_add, List.getElem?_append_left (List.getElem?_eq_some_iff.1 hj).1]
      exact hj
    · rw [List.getElem?_cons_succ] at hi
      rw [List.getElem?_append_right (by rw [hy, Nat.add_mul]; omega), hy]
      have := ih (fun z hz => hf z (by simp [hz])) hi
      rw [show (i + 1) * s + j - s = i * s + j by rw [Nat.add_mul]; omega]
      exact this

theorem DkV.clen [Inhabited (Option Nat)] {w : World} {D S : Nat} {vs ns : List Value} {wv : Value} {css : List (List Value)} {k : Dk} (h : DkV w D S vs ns wv css k) : ∀ cs ∈ css, cs.length = 3 := by
  intro cs hcs
  obtain ⟨i, hi⟩ := List.mem_iff_getElem?.1 hcs
  have hl : i < k.wait.length := by rw [← h.wl]; exact (List.getElem?_eq_some_iff.1 hi).1
  exact (h.ws i _ cs (List.getElem?_eq_getElem hl) hi).len.1

/-- A step that waits, at its place. -/
theorem DkV.step [Inhabited (Option Nat)] {w : World} {D S : Nat} {vs ns : List Value} {ad : Addr} {n c : Nat} {css : List (List Value)} {k : Dk} (h : DkV w D S vs ns (.slice (some ad) n c) css k) (hn : n = k.wait.length) {i : Nat} {cs : List Value} (hi : css[i]? = some cs) :
    ∀ j u, cs[j]? = some u → w.cell? ((ad.add (i * 3)).add j) = some u := by
  intro j u hj
  have hr := h.wt.rd
  rw [← hn] at hr
  rcases hr.2 with ⟨he, _⟩ | ⟨ad', c', he, _, _, hc⟩
  · cases he
  · simp only [Value.slice.injEq, Option.some.injEq] at he
    obtain ⟨rfl, _, _⟩ := he
    rw [add_add_addr]
    refine hc _ u ?_
    have := flat_get id 3 css (fun x hx => h.clen x hx) hi j u hj
    simpa [List.flatMap_id] using this

/-- The rest of a row. -/
theorem VwS.from {w : World} {e : TypeId} {size : Nat} {a : Option Addr} {n c : Nat} {cs : List Value} (h : VwS w e size (.slice a n c) n cs) (i : Nat) (hi : i ≤ n) :
    VwS w e size (.slice (if c = i then a else a.map (·.add (i * size))) (n - i) (c - i)) (n - i) (cs.drop (i * size)) := by
  rcases h with ⟨he, h0, h1⟩ | ⟨g, off, c', cur, he, hnc, hcm, hcb, hoc, hcl, hct⟩
  · simp only [Value.slice.injEq] at he
    obtain ⟨rfl, rfl, rfl⟩ := he
    obtain rfl : i = 0 := by omega
    subst h1
    exact .inl ⟨by simp, rfl, by simp⟩
  · simp only [Value.slice.injEq, true_and] at he
    obtain ⟨rfl, rfl⟩ := he
    have hsz : i * size ≤ n * size := Nat.mul_le_mul_right _ hi
    have hsz2 : i * size + (n - i) * size = n * size := by rw [← Nat.add_mul]; congr 1; omega
    by_cases hci : c = i
    · have hni : n - i = 0 := by omega
      rw [if_pos hci, hni]
      exact .inr ⟨g, off, c - i, cur, rfl, by omega, by omega, hcb, by rw [show c - i = 0 by omega, Nat.zero_mul]; have : 0 ≤ c * size := Nat.zero_le _; omega, by rw [List.length_drop, hcl]; rw [hni] at hsz2; omega, by rw [Nat.zero_mul, List.take_zero, List.drop_of_length_le]; rw [hcl]; rw [hni] at hsz2; omega⟩
    · have hsz3 : i * size + (c - i) * size = c * size := by rw [← Nat.add_mul]; congr 1; omega
      rw [if_neg hci]
      refine .inr ⟨g, off + i * size, c - i, cur, ?_, by omega, by omega, hcb, by omega, by rw [List.length_drop, hcl]; omega, ?_⟩
      · simp only [Option.map_some, add_at]
      · rw [← hct, List.drop_take, List.drop_drop]
        congr 1
        omega

theorem drop_flat {css : List (List Value)} (h : ∀ cs ∈ css, cs.length = 3) : ∀ n, css.flatten.drop (n * 3) = (css.drop n).flatten := by
  induction css with
  | nil => intro n; simp
  | cons c css ih =>
    intro n
    have hc := h c (by simp)
    rcases n with _ | n
    · simp
    · rw [List.flatten_cons, List.drop_succ_cons, Nat.add_mul, Nat.one_mul, Nat.add_comm, ← List.drop_drop, ← hc, List.drop_left]
      rw [hc]
      exact ih (fun x hx => h x (by simp [hx])) n

/-- Some of the steps settled. -/
def settleK (k : Dk) (n : Nat) : Dk := { k with set := (k.wait.take n).foldl app k.set, wait := k.wait.drop n }

theorem DkV.rest [Inhabited (Option Nat)] {w w' : World} {D S : Nat} {vs ns : List Value} {a : Option Addr} {L c : Nat} {css : List (List Value)} {k : Dk} {set' : List Bs} {n : Nat} (h : DkV w D S vs ns (.slice a L c) css { k with set := set' }) (hL : L = k.wait.length) (hn : n ≤ L)
    (hs : set' = (k.wait.take n).foldl app k.set) (hc : CB w' 65 D ((dkC S ns (.slice a L c) k.fuse k.armed k.dead).set 17 (.slice (if c = n then a else a.map (·.add (n * 3))) (L - n) (c - n)))) (ho : Only D w w') :
    DkV w' D S vs ns (.slice (if c = n then a else a.map (·.add (n * 3))) (L - n) (c - n)) (css.drop n) (settleK k n) := by
  have kt : Kt [65] w w' := Kt.only ho h.cd.tag (by simp)
  have hwt : VwS w 78 3 (.slice a L c) L css.flatten := by have := h.wt; rw [hL] at this ⊢; exact this
  rw [dkC_setWait h.ln.1] at hc
  have hw := (hwt.from n hn).kt kt (by decide)
  rw [drop_flat h.clen] at hw
  refine ⟨hc, h.cs.kt kt (by decide), by rw [settleK, ← hs]; exact h.lv.kt kt (by decide), h.ln.kt kt (by decide), ?_, ?_, fun i x cs hx hcc => ?_⟩
  · simpa [settleK, ← hL] using hw
  · simp [settleK, h.wl]
  · simp only [settleK] at hx
    rw [List.getElem?_drop] at hx hcc
    exact (h.ws _ x cs hx hcc).kt kt (by decide) (by decide) (by decide)

set_option maxRecDepth 100000 in
set_option maxHeartbeats 2000000 in
theorem settle_any [Inhabited (Option Nat)] (w : World) (D S : Nat) (wv : Value) (k : Dk) (h : DkAt w D S wv k) (n : Nat) (hn : n ≤ k.wait.length) (hw : k.wait.length ≤ 1000000)
    (hl : ∀ j, ∀ l ∈ (k.wait.take j).foldl app k.set, l.length ≤ 16777216) (hav : Av w.heap.size) :
    Calls Try.prog 40 #[.pointer (some ⟨D, 0, none⟩), .int .i64 (n : Int)] w fun e w' => e = .returned (.tuple #[]) ∧ ∃ wv', DkAt w' D S wv' (settleK k n) ∧ Mv D S wv w w' ∧ Grew w wv wv' := by
  obtain ⟨vs, ns, css, hd⟩ := h
  obtain ⟨av, cv, rfl⟩ := hd.wt.slice
  obtain ⟨L, hL⟩ : ∃ L, L = k.wait.length := ⟨_, rfl⟩
  rw [← hL] at hd hn hw ⊢
  have hc17 := hd.cd.cell 17 _ (dkC_tail hd.ln.1 0)
  have bc : (L : Int) ≤ (cv : Int) := by
    have := hd.wt.rd
    rcases this.2 with ⟨he, _⟩ | ⟨ad, c', he, hnc, _⟩
    · simp only [Value.slice.injEq] at he; omega
    · simp only [Value.slice.injEq] at he; omega
  have bn : (n : Int) ≤ (cv : Int) := by omega
  have bL : (n : Int) ≤ 1000000 := by omega
  have HD := Lib.hid hd
  have HL := Lib.hid (And.intro hL hl)
  have HN := Lib.hid hn
  have AV := Lib.hid hav
  have WB : Hid (∀ g, (Value.slice av L cv).ownBlock = some g → g < w.heap.size) := Lib.hid (fun g hg => (hd.wt.tag g hg).lt)
  clear hd hL hl hn hav
  go_enter Try.func40, Try.ntmps40
  go_wp2_with fail
  clear hc17
  go_loopw [13] (fun v13 wr => Mv D S (.slice av L cv) w wr ∧ ∃ j : Nat, j ≤ n ∧ v13 = .int .i64 (j : Int) ∧ ∃ vs, DkV wr D S vs ns (.slice av L cv) css { k with set := (k.wait.take j).foldl app k.set })
    (fun v _ => n - (RowKit.intOf v).toNat)
  case atStart => exact ⟨Mv.refl _ _ _ _, 0, Nat.zero_le _, rfl, vs, HD.out⟩
  case round =>
    obtain ⟨hm, j, hj, rfl, vs1, hd⟩ := hrel
    have HM := Lib.hid hm
    have HR := Lib.hid hd
    clear hm
    by_cases hjn : j < n
    · have ij : (j : Int) < (n : Int) := by omega
      have hj1 : j < k.wait.length := by have := HL.out.1; have := HN.out; omega
      obtain ⟨x, hx⟩ : ∃ z, k.wait[j]? = some z := ⟨_, List.getElem?_eq_getElem hj1⟩
      obtain ⟨cs, hcs⟩ : ∃ z, css[j]? = some z := ⟨_, List.getElem?_eq_getElem (by have := hd.wl; simp only at this; omega)⟩
      obtain ⟨ad, rfl⟩ : ∃ ad, av = some ad := by
        cases av with
        | none =>
          have := hd.wt
          rcases this with ⟨_, h0, _⟩ | ⟨_, _, _, _, he, _⟩
          · simp only at h0; omega
          · cases he
        | some ad => exact ⟨ad, rfl⟩
      have hst := hd.ws j x cs hx hcs
      obtain ⟨F, g1, g2, i, a1, n1, c1, rfl, hf⟩ := hst.fn
      have hat := hd.step HL.out.1 hcs
      have HX := Lib.hid (And.intro hst hf)
      have HAT := Lib.hid hat
      have HXX := Lib.hid (And.intro hx hcs)
      have HJ := Lib.hid (And.intro hj hjn)
      clear hx hcs hst hf hat hd hj hjn hj1
      go_wp2_with (with_reducible refine stopAt 16 ?_)
      refine Stop.go ?_
      refine wpList_load_agg rfl 78 (.tmp 15) rfl (ad.add (j * 3)) rfl [.func (.func F) #[] #[.pointer (some ⟨g1, 0, none⟩), .pointer (some ⟨g2, 0, none⟩)], .int .i64 i, .slice a1 n1 c1] _ HAT.out Try.underlying78 rfl (by exact infoStep) ?_
      go_wp2_with (with_reducible refine stopStore 78 ?_)
      refine Stop.go ?_
      obtain ⟨w1, h1, k1, b1, s1⟩ := alloc_cb wr 78 [.nilFunc, .int .i64 0, .slice none 0 0]
      change wpList _ _ _ _ _ (wr.alloc (.cells [.nilFunc, .int .i64 0, .slice none 0 0].toArray 78))
      rw [← h1]
      refine wpList_store_var rfl 78 (.tmp 5) (.tmp 16) rfl wr.heap.size _ rfl _ (stV F g1 g2 i (.slice a1 n1 c1)) rfl k1 rfl (by simp [stV, Value.oneCell']) infoStep ?_
      intro w2 k2 o2
      have B2 := Lib.hid (Below.only b1 o2 (Nat.le_refl _))
      have K2 : Hid (CB w2 78 wr.heap.size (stV F g1 g2 i (.slice a1 n1 c1))) := Lib.hid k2
      clear h1 k1 b1 s1 k2 o2
      have R2 := Lib.hid (HR.out.fresh B2.out)
      have X2 := Lib.hid (HX.out.2.fresh B2.out)
      have BD : Hid (Below w2.heap.size w2 w2.drew) := Lib.hid ((Below.refl _ w2).drew)
      have hlen : ∀ l ∈ app ((k.wait.take j).foldl app k.set) x, l.length ≤ 100000000 := by
        intro l hl
        have e : app ((k.wait.take j).foldl app k.set) x = (k.wait.take (j + 1)).foldl app k.set := by
          rw [List.take_add_one, HXX.out.1, List.foldl_append]
          rfl
        rw [e] at hl
        have := HL.out.2 (j + 1) l hl
        omega
      have CN := Lib.hid (stf_set w2.drew D S vs1 ns _ css _ F g1 g2 x (R2.out.fresh BD.out) (X2.out.fresh BD.out) hlen (AV.out.mono (Nat.le_trans HM.out.size (Nat.le_trans B2.out.size BD.out.size))))
      clear hlen
      have hS : Hid (CB w2.drew 78 wr.heap.size (stV F g1 g2 i (.slice a1 n1 c1)) ∧ w2.drew.cell? ⟨D, 0, none⟩ = some (.pointer (some ⟨S, 0, none⟩))) := Lib.hid ⟨K2.out.drew, (R2.out.fresh BD.out).cd.cell 0 _ rfl⟩
      go_wp2_with fail
      refine pl_start 7 rfl (fun w' => CB w' 78 wr.heap.size (stV F g1 g2 i (.slice a1 n1 c1)) ∧ w'.cell? ⟨D, 0, none⟩ = some (.pointer (some ⟨S, 0, none⟩))) (by kernel_rfl) ?_
      refine pl_take (i := 0) 17 rfl rfl rfl (by kernel_rfl) (by kernel_rfl) (by kernel_rfl) (by simp [Act.put]) hS.out ?_
      apply Exists.intro
      refine And.intro (fun w' hS' => ?_) ?_
      · clear hS'
        go_wp2
        first
          | exact ⟨trivial, rfl⟩
          | exact rfl
      refine pl_take (i := 1) 18 rfl rfl rfl (by kernel_rfl) (by kernel_rfl) (by kernel_rfl) (by simp [Act.put]) hS.out ?_
      apply Exists.intro
      refine And.intro (fun w' hS' => ?_) ?_
      · have hc := hS'.1.cell 0 _ rfl
        clear hS'
        go_wp2
        first
          | exact ⟨trivial, rfl⟩
          | exact rfl
      refine pl_take (i := 2) 19 rfl rfl rfl (by kernel_rfl) (by kernel_rfl) (by kernel_rfl) (by simp [Act.put]) hS.out ?_
      apply Exists.intro
      refine And.intro (fun w' hS' => ?_) ?_
      · go_wp2
        first
          | exact ⟨trivial, rfl⟩
          | exact rfl
      refine pl_take (i := 3) 20 rfl rfl rfl (by kernel_rfl) (by kernel_rfl) (by kernel_rfl) (by simp [Act.put]) hS.out ?_
      apply Exists.intro
      refine And.intro (fun w' hS' => ?_) ?_
      · go_wp2
        first
          | exact ⟨trivial, rfl⟩
          | exact rfl
      refine pl_take (i := 4) 21 rfl rfl rfl (by kernel_rfl) (by kernel_rfl) (by kernel_rfl) (by simp [Act.put]) hS.out ?_
      apply Exists.intro
      refine And.intro (fun w' hS' => ?_) ?_
      · go_wp2
        first
          | exact ⟨trivial, rfl⟩
          | exact rfl
      refine pl_take (i := 5) 22 rfl rfl rfl (by kernel_rfl) (by kernel_rfl) (by kernel_rfl) (by simp [Act.put]) hS.out ?_
      apply Exists.intro
      refine And.intro (fun w' hS' => ?_) ?_
      · have hc := hS'.2
        clear hS'
        go_wp2
        first
          | exact ⟨trivial, rfl⟩
          | exact rfl
      refine pl_heavy (i := 6) rfl (by kernel_rfl) ?_
      go_wp2_with fail
      rw [X2.out.run, Oper.upon_enter]
      refine CN.out.mono ?_
      rintro e w3 ⟨rfl, vs3, d3, g3⟩
      have M3 : Hid (Mv D S (.slice (some ad) L cv) w2.drew w3) := Lib.hid (Mv.gS g3)
      have kt3 := M3.out.kt ⟨_, _, _, R2.out.fresh BD.out⟩
      have h1 := hS.out.1.kept (g3.block _ hS.out.1.lt (fun e => by
        simp only [Option.some.injEq] at e
        exact hS.out.1.tag.ne (R2.out.fresh BD.out).cs.tag (by decide) e))
      have h2 := d3.cd.cell 0 _ rfl
      clear hS CN kt3 g3
      have hS : Hid (CB w3 78 wr.heap.size (stV F g1 g2 i (.slice a1 n1 c1)) ∧ w3.cell? ⟨D, 0, none⟩ = some (.pointer (some ⟨S, 0, none⟩))) := Lib.hid ⟨h1, h2⟩
      have D3 := Lib.hid d3
      clear d3 h1 h2
      go_wp2
      refine And.intro hS.out ?_
      refine pl_done (by kernel_rfl) ?_
      go_wp2
      go_roundw
      case rel =>
        refine ⟨((HM.out.tr' (Mv.fresh B2.out)).tr' (Mv.fresh BD.out)).tr' M3.out, j + 1, HJ.out.2, by simp, vs3, ?_⟩
        have e : app ((k.wait.take j).foldl app k.set) x = (k.wait.take (j + 1)).foldl app k.set := by
          rw [List.take_add_one, HXX.out.1, List.foldl_append]
          rfl
        rw [← e]
        exact D3.out
      case measure =>
        have := HJ.out.2
        simp only [RowKit.intOf]
        omega
    · have ij : ¬ ((j : Int) < (n : Int)) := by omega
      obtain rfl : j = n := by omega
      have hc17 := hd.cd.cell 17 _ (dkC_tail hd.ln.1 0)
      have bLL : (j : Int) ≤ (L : Int) := by have := HN.out; omega
      clear hd hj hjn
      obtain ⟨a', ha'⟩ : ∃ a', a' = if cv = j then av else av.map (·.add (j * 3)) := ⟨_, rfl⟩
      have HA := Lib.hid ha'
      clear ha'
      go_wp2_with (with_reducible refine stopAt 31 ?_)
      refine Stop.go ?_
      refine wpList_slice rfl 63 (.tmp 29) _ _ _ rfl (.slice a' (L - j) (cv - j)) (by rw [HA.out]; exact run_slice_from Try.underlying63 infoStep av L cv j HN.out) ?_
      go_wp2_with (with_reducible refine stopStore 63 ?_)
      refine Stop.go ?_
      refine wpList_store_cell rfl 63 (.tmp 33) (.tmp 31) rfl D 17 65 rfl _ (.slice a' (L - j) (cv - j)) rfl rfl HR.out.cd (by rw [dkC_length HR.out.ln.1]; omega) infoSlS ?_
      intro w8 k8 o8
      rw [HA.out] at k8
      have D8 := Lib.hid (HR.out.rest (k := k) HL.out.1 HN.out rfl k8 o8)
      have M8 : Hid (Mv D S (.slice av L cv) wr w8) := Lib.hid (Mv.disk o8)
      clear k8 o8 hc17
      go_wp2
      refine Great.bodyPost_end0 rfl rfl ⟨rfl, _, ⟨_, _, _, D8.out⟩, HM.out.tr' M8.out, fun g hg => .inl (ownBlock_part hg)⟩

end Go.Proofs.Ytbbbgpdhdlknjaa
