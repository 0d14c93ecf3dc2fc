/- Disks: the document's disk, its logs as they are read: the walk. -/
import Derived.Test.YtbbbgpdhdlknjaaEa
namespace Go.Proofs.Ytbbbgpdhdlknjaa
set_option linter.unusedVariables false
set_option linter.unusedSimpArgs false
open Go.RowKit Go.Lib

/-- How the document's disk lies in memory. -/
structure RkV (w : World) (G : Nat) (ls : List Value) (pv : Value) (css : List (List Value)) (set : List Bs) (wait : List St) (f : Int) (d : Bool) : Prop where
  cr : CB w 41 G (ls ++ [pv, .int .i64 f, .bool d])
  ll : Lg w ls set
  wt : VwS w 83 4 pv wait.length css.flatten
  wl : css.length = wait.length
  ws : ∀ (i : Nat) (x : St) (cs : List Value), wait[i]? = some x → css[i]? = some cs → PtC w cs x

def RkAt (w : World) (G : Nat) (pv : Value) (set : List Bs) (wait : List St) (f : Int) (d : Bool) : Prop := ∃ ls css, RkV w G ls pv css set wait f d

theorem RkV.kt {w w' : World} {G : Nat} {ls : List Value} {pv : Value} {css : List (List Value)} {set : List Bs} {wait : List St} {f : Int} {d : Bool} {E : List TypeId} (h : RkV w G ls pv css set wait f d) (hk : Kt E w w') (h1 : 5 ∉ E) (h2 : 41 ∉ E) (h3 : 83 ∉ E) :
    RkV w' G ls pv css set wait f d := ⟨h.cr.kt hk h2, h.ll.kt hk h1, h.wt.kt hk h3, h.wl, fun i x cs hx hc => (h.ws i x cs hx hc).kt hk h1⟩
theorem RkV.fresh {w w' : World} {G : Nat} {ls : List Value} {pv : Value} {css : List (List Value)} {set : List Bs} {wait : List St} {f : Int} {d : Bool} (h : RkV w G ls pv css set wait f d) (hb : Below w.heap.size w w') : RkV w' G ls pv css set wait f d :=
  h.kt (E := []) (Kt.fresh hb) (by simp) (by simp) (by simp)
theorem RkAt.fresh {w w' : World} {G : Nat} {pv : Value} {set : List Bs} {wait : List St} {f : Int} {d : Bool} (h : RkAt w G pv set wait f d) (hb : Below w.heap.size w w') : RkAt w' G pv set wait f d := by
  obtain ⟨ls, css, h⟩ := h
  exact ⟨ls, css, h.fresh hb⟩
theorem RkAt.kt {w w' : World} {G : Nat} {pv : Value} {set : List Bs} {wait : List St} {f : Int} {d : Bool} {E : List TypeId} (h : RkAt w G pv set wait f d) (hk : Kt E w w') (h1 : 5 ∉ E) (h2 : 41 ∉ E) (h3 : 83 ∉ E) : RkAt w' G pv set wait f d := by
  obtain ⟨ls, css, h⟩ := h
  exact ⟨ls, css, h.kt hk h1 h2 h3⟩

theorem RkV.clen {w : World} {G : Nat} {ls : List Value} {pv : Value} {css : List (List Value)} {set : List Bs} {wait : List St} {f : Int} {d : Bool} (h : RkV w G ls pv css set wait f d) : ∀ cs ∈ css, cs.length = 4 := by
  intro cs hcs
  obtain ⟨i, hi⟩ := List.mem_iff_getElem?.1 hcs
  have hl : i < wait.length := by rw [← h.wl]; exact (List.getElem?_eq_some_iff.1 hi).1
  exact (h.ws i _ cs (List.getElem?_eq_getElem hl) hi).len.1

theorem RkV.step {w : World} {G : Nat} {ls : List Value} {ad : Addr} {n c : Nat} {css : List (List Value)} {set : List Bs} {wait : List St} {f : Int} {d : Bool} (h : RkV w G ls (.slice (some ad) n c) css set wait f d) (hn : n = wait.length) {i : Nat} {cs : List Value} (hi : css[i]? = some cs) :
    ∀ j u, cs[j]? = some u → w.cell? ((ad.add (i * 4)).add j) = some u := by
  intro j u hj
  have hr := h.wt.rd
  rw [← hn] at hr
  rcases hr.2 with ⟨he, _⟩ | ⟨ad', c', he, _, _, hc⟩
  · cases he
  · simp only [Value.slice.injEq, Option.some.injEq] at he
    obtain ⟨rfl, _, _⟩ := he
    rw [add_add_addr]
    refine hc _ u ?_
    have := flat_get id 4 css (fun x hx => h.clen x hx) hi j u hj
    simpa [List.flatMap_id] using this

theorem RkV.cell {w : World} {G : Nat} {ls : List Value} {pv : Value} {css : List (List Value)} {set : List Bs} {wait : List St} {f : Int} {d : Bool} (h : RkV w G ls pv css set wait f d) (j : Nat) : (ls ++ [pv, .int .i64 f, .bool d])[16 + j]? = [pv, .int .i64 f, .bool d][j]? := by
  rw [List.getElem?_append_right (by rw [h.ll.1]; omega), h.ll.1]
  congr 1
  omega

theorem RkV.logs {w : World} {G : Nat} {ls : List Value} {pv : Value} {css : List (List Value)} {set : List Bs} {wait : List St} {f : Int} {d : Bool} (h : RkV w G ls pv css set wait f d) : At w G 0 ls := by
  intro j u hj
  rw [Nat.zero_add]
  refine h.cr.cell j u ?_
  rw [List.getElem?_append_left (List.getElem?_eq_some_iff.1 hj).1]
  exact hj

theorem foldl_take_succ {wait : List St} {set : List Bs} {j : Nat} {x : St} (hx : wait[j]? = some x) : (wait.take (j + 1)).foldl app set = app ((wait.take j).foldl app set) x := by
  rw [List.take_add_one, hx, Option.toList_some, foldl_concat]

set_option maxRecDepth 100000 in
set_option maxHeartbeats 4000000 in
theorem now_any (w : World) (G : Nat) (pv : Value) (set : List Bs) (wait : List St) (f : Int) (d : Bool) (h : RkAt w G pv set wait f d) (hp : ∀ j, ∀ l ∈ (wait.take j).foldl app set, l.length ≤ 16777216) (hb : ∀ (j i : Nat) (b : Bs), wait[j]? = some (.put i b) → b.length ≤ 16777216) (hw : wait.length ≤ 1000000) :
    Calls Try.prog 44 #[.pointer (some ⟨G, 0, none⟩)] w fun e w' => ∃ ls', e = .returned (.agg ls'.toArray) ∧ Lg w' ls' (wait.foldl app set) ∧ Below w.heap.size w w' := by
  obtain ⟨ls, css, hr⟩ := h
  obtain ⟨pa, pc, rfl⟩ := hr.wt.slice
  obtain ⟨N, hN⟩ : ∃ N, N = wait.length := ⟨_, rfl⟩
  rw [← hN] at hr
  have HR := Lib.hid hr
  have HN := Lib.hid (And.intro hN hw)
  have HP := Lib.hid (And.intro hp hb)
  have bN : (N : Int) ≤ 1000000 := by omega
  clear hr hN hp hb hw
  go_enter Try.func44, Try.ntmps44
  go_wp2_with (with_reducible refine stopAt 8 ?_)
  refine Stop.go ?_
  obtain ⟨w1, h1, k1, b1, s1⟩ := alloc_cb w 38 noLogs
  change wpList _ _ _ _ _ (w.alloc (.cells noLogs.toArray 38))
  rw [← h1]
  have K1 := Lib.hid k1
  have B1 := Lib.hid b1
  have S1 := Lib.hid s1
  clear h1 k1 b1 s1
  refine wpList_load_agg rfl 38 (.tmp 7) rfl ⟨G, 0, none⟩ rfl ls _ (HR.out.fresh B1.out).logs.load Try.underlying38 rfl (by rw [HR.out.ll.1]; exact infoL16) ?_
  go_wp2_with (with_reducible refine stopStore 38 ?_)
  refine Stop.go ?_
  obtain ⟨w2, h2, k2, b2, s2⟩ := alloc_cb w1 38 noLogs
  change wpList _ _ _ _ _ (w1.alloc (.cells noLogs.toArray 38))
  rw [← h2]
  refine wpList_store_var rfl 38 (.tmp 3) (.tmp 8) rfl w1.heap.size _ rfl _ ls rfl k2 (by rw [HR.out.ll.1]; rfl) HR.out.ll.one (by rw [HR.out.ll.1]; exact infoL16) ?_
  intro w3 k3 o3
  have K3 : Hid (CB w3 38 w1.heap.size ls) := Lib.hid k3
  have B3 := Lib.hid (Below.only (B1.out.tr b2) o3 B1.out.size)
  have K1' := Lib.hid ((K1.out.fresh b2).only o3 (by have := S1.out; omega))
  have L3 := Lib.hid (HR.out.ll.fresh B3.out)
  clear h2 k2 b2 s2 k3 o3 K1
  obtain ⟨g3, hg3⟩ : ∃ g3, g3 = w1.heap.size := ⟨_, rfl⟩
  rw [← hg3] at K3 ⊢
  have G3 : Hid (w.heap.size < g3) := Lib.hid (by have := S1.out; omega)
  clear hg3
  go_wp2
  go_loopw [4] (fun v4 wr => Below w.heap.size w wr ∧ CB wr 38 w.heap.size noLogs ∧ ∃ j : Nat, j ≤ N ∧ v4 = .int .i64 (j : Int) ∧ ∃ ls', CB wr 38 g3 ls' ∧ Lg wr ls' ((wait.take j).foldl app set))
    (fun v _ => N - (RowKit.intOf v).toNat)
  case atStart => exact ⟨B3.out, K1'.out, 0, Nat.zero_le _, rfl, ls, K3.out, L3.out⟩
  case round =>
    obtain ⟨hbw, hkz, j, hj, rfl, ls1, hk, hl⟩ := hrel
    have HB := Lib.hid hbw
    have KZ := Lib.hid hkz
    have KL := Lib.hid hk
    have LL := Lib.hid hl
    have HRw := Lib.hid (HR.out.fresh hbw)
    have hc16 : wr.cell? ⟨G, 16, none⟩ = some (.slice pa N pc) := HRw.out.cr.cell 16 _ (HRw.out.cell 0)
    clear hbw hkz hk hl
    by_cases hjn : j < N
    · have ij : (j : Int) < (N : Int) := by omega
      obtain ⟨x, hx⟩ : ∃ z, wait[j]? = some z := ⟨_, List.getElem?_eq_getElem (by have := HN.out.1; omega)⟩
      obtain ⟨cs, hcs⟩ : ∃ z, css[j]? = some z := ⟨_, List.getElem?_eq_getElem (by have h1 := HR.out.wl; have h2 := HN.out.1; omega)⟩
      obtain ⟨ad, rfl⟩ : ∃ ad, pa = some ad := by
        cases pa with
        | none =>
          rcases HR.out.wt with ⟨_, h0, _⟩ | ⟨_, _, _, _, he, _⟩
          · have := HN.out.1; omega
          · cases he
        | some ad => exact ⟨ad, rfl⟩
      have HXX := Lib.hid (And.intro hx (And.intro hcs (And.intro hj hjn)))
      have PC := Lib.hid (HR.out.ws j x cs hx hcs)
      have DN := Lib.hid (done_any wr.drew ls1 ((wait.take j).foldl app set) cs x (LL.out.fresh (Below.refl _ wr).drew) (PC.out.fresh (HB.out.drew)) (by
        rw [← foldl_take_succ hx]
        exact HP.out.1 (j + 1)) (HP.out.1 j) (fun i b e => HP.out.2 j i b (by rw [hx, e])))
      have hS : Hid (CB wr.drew 38 g3 ls1 ∧ wr.drew.cell? ⟨G, 16, none⟩ = some (.slice (some ad) N pc) ∧ ∀ i u, cs[i]? = some u → wr.drew.cell? ((ad.add (j * 4)).add i) = some u) := Lib.hid ⟨KL.out.drew, hc16, (HRw.out.fresh (Below.refl _ wr).drew).step HN.out.1 hcs⟩
      clear hx hcs hj hjn
      go_wp2_with fail
      clear hc16
      refine pf_start 10 rfl (fun w' => CB w' 38 g3 ls1 ∧ w'.cell? ⟨G, 16, none⟩ = some (.slice (some ad) N pc) ∧ ∀ i u, cs[i]? = some u → w'.cell? ((ad.add (j * 4)).add i) = some u) (fun i => i == 9) (by kernel_rfl) ?_
      refine pf_take (i := 0) 18 rfl rfl rfl (by kernel_rfl) (by kernel_rfl) (by kernel_rfl) (by kernel_rfl) (by kernel_rfl) (by simp [Act.put]) hS.out ?_
      apply Exists.intro
      refine And.intro (fun w' hS' => ?_) ?_
      · refine wpList_load_agg rfl 38 (.tmp 3) rfl ⟨g3, 0, none⟩ rfl ls1 _ (At.block hS'.1).load Try.underlying38 rfl (by rw [LL.out.1]; exact infoL16) ?_
        clear hS'
        go_wp2
        first
          | exact ⟨trivial, rfl⟩
          | exact rfl
      refine pf_take (i := 1) 19 rfl rfl rfl (by kernel_rfl) (by kernel_rfl) (by kernel_rfl) (by kernel_rfl) (by kernel_rfl) (by simp [Act.put]) hS.out ?_
      apply Exists.intro
      refine And.intro (fun w' hS' => ?_) ?_
      · clear hS'
        go_wp2
        first
          | exact ⟨trivial, rfl⟩
          | exact rfl
      refine pf_take (i := 2) 20 rfl rfl rfl (by kernel_rfl) (by kernel_rfl) (by kernel_rfl) (by kernel_rfl) (by kernel_rfl) (by simp [Act.put]) hS.out ?_
      apply Exists.intro
      refine And.intro (fun w' hS' => ?_) ?_
      · clear hS'
        go_wp2
        first
          | exact ⟨trivial, rfl⟩
          | exact rfl
      refine pf_take (i := 3) 21 rfl rfl rfl (by kernel_rfl) (by kernel_rfl) (by kernel_rfl) (by kernel_rfl) (by kernel_rfl) (by simp [Act.put]) hS.out ?_
      apply Exists.intro
      refine And.intro (fun w' hS' => ?_) ?_
      · clear hS'
        go_wp2
        first
          | exact ⟨trivial, rfl⟩
          | exact rfl
      refine pf_take (i := 4) 22 rfl rfl rfl (by kernel_rfl) (by kernel_rfl) (by kernel_rfl) (by kernel_rfl) (by kernel_rfl) (by simp [Act.put]) hS.out ?_
      apply Exists.intro
      refine And.intro (fun w' hS' => ?_) ?_
      · have hc := hS'.2.1
        clear hS'
        go_wp2
        first
          | exact ⟨trivial, rfl⟩
          | exact rfl
      refine pf_take (i := 5) 23 rfl rfl rfl (by kernel_rfl) (by kernel_rfl) (by kernel_rfl) (by kernel_rfl) (by kernel_rfl) (by simp [Act.put]) hS.out ?_
      apply Exists.intro
      refine And.intro (fun w' hS' => ?_) ?_
      · clear hS'
        go_wp2
        first
          | exact ⟨trivial, rfl⟩
          | exact rfl
      refine pf_take (i := 6) 24 rfl rfl rfl (by kernel_rfl) (by kernel_rfl) (by kernel_rfl) (by kernel_rfl) (by kernel_rfl) (by simp [Act.put]) hS.out ?_
      apply Exists.intro
      refine And.intro (fun w' hS' => ?_) ?_
      · clear hS'
        go_wp2
        first
          | exact ⟨trivial, rfl⟩
          | exact rfl
      refine pf_take (i := 7) 25 rfl rfl rfl (by kernel_rfl) (by kernel_rfl) (by kernel_rfl) (by kernel_rfl) (by kernel_rfl) (by simp [Act.put]) hS.out ?_
      apply Exists.intro
      refine And.intro (fun w' hS' => ?_) ?_
      · refine wpList_load_agg rfl 83 (.tmp 24) rfl (ad.add (j * 4)) rfl cs _ hS'.2.2 Try.underlying83 rfl (by rw [PC.out.len.1]; exact infoPut) ?_
        clear hS'
        go_wp2
        first
          | exact ⟨trivial, rfl⟩
          | exact rfl
      refine pf_heavy (i := 8) rfl (by kernel_rfl) ?_
      go_wp2_with fail
      refine DN.out.mono ?_
      rintro e w8 ⟨ls8, rfl, l8, b8⟩
      have B8 : Hid (Below w.heap.size w w8) := Lib.hid (HB.out.drew.trans (b8.mono HB.out.drew.size))
      have L8 := Lib.hid l8
      have KZ8 := Lib.hid (KZ.out.fresh ((Below.refl _ wr).drew.tr b8))
      have h1 : CB w8 38 g3 ls1 ∧ w8.cell? ⟨G, 16, none⟩ = some (.slice (some ad) N pc) ∧ ∀ i u, cs[i]? = some u → w8.cell? ((ad.add (j * 4)).add i) = some u := ⟨hS.out.1.fresh b8, cell_kept hS.out.2.1 b8, fun i u hu => cell_kept (hS.out.2.2 i u hu) b8⟩
      clear hS l8 b8 DN
      have hS := Lib.hid h1
      clear h1
      go_wp2
      refine And.intro hS.out ?_
      refine pf_last (i := 9) rfl (by kernel_rfl) (by kernel_rfl) ?_
      refine wpList_store_var rfl 38 (.tmp 3) (.tmp 26) rfl g3 _ rfl _ ls8 rfl hS.out.1 (by rw [List.size_toArray, LL.out.1, L8.out.1]) L8.out.one (by rw [L8.out.1]; exact infoL16) ?_
      intro w9 k9 o9
      have K9 : Hid (CB w9 38 g3 ls8) := Lib.hid k9
      have B9 := Lib.hid (Below.only B8.out o9 (Nat.le_of_lt G3.out))
      have L9 := Lib.hid (L8.out.kt (Kt.only (E := [38]) o9 hS.out.1.tag (by simp)) (by decide))
      have KZ9 := Lib.hid (KZ8.out.only o9 (by have := G3.out; omega))
      clear k9 o9
      go_wp2
      refine pf_done (by kernel_rfl) ?_
      go_wp2
      go_roundw
      case rel => exact ⟨B9.out, KZ9.out, j + 1, HXX.out.2.2.2, by go_num, ls8, K9.out, by rw [foldl_take_succ HXX.out.1]; exact L9.out⟩
      case measure => have := HXX.out.2.2.2; simp only [RowKit.intOf]; omega
    · have ij : ¬ ((j : Int) < (N : Int)) := by omega
      obtain rfl : j = N := by omega
      clear hj hjn
      go_wp2_with (with_reducible refine stopAt 27 ?_)
      refine Stop.go ?_
      refine wpList_load_agg rfl 38 (.tmp 3) rfl ⟨g3, 0, none⟩ rfl ls1 _ (At.block KL.out).load Try.underlying38 rfl (by rw [LL.out.1]; exact infoL16) ?_
      go_wp2_with (with_reducible refine stopStore 38 ?_)
      refine Stop.go ?_
      refine wpList_store_var rfl 38 (.tmp 2) (.tmp 27) rfl w.heap.size _ rfl _ ls1 rfl KZ.out (by rw [LL.out.1]; rfl) LL.out.one (by rw [LL.out.1]; exact infoL16) ?_
      intro w9 k9 o9
      have K9 : Hid (CB w9 38 w.heap.size ls1) := Lib.hid k9
      have B9 := Lib.hid (Below.only HB.out o9 (Nat.le_refl _))
      have L9 := Lib.hid (LL.out.kt (Kt.only (E := [38]) o9 KZ.out.tag (by simp)) (by decide))
      clear k9 o9
      go_wp2
      refine bodyPost_ret (results_cell1 rfl _ _ w.heap.size _ _ _ _ rfl K9.out Try.underlying38 rfl (by rw [List.size_toArray, LL.out.1]; exact infoL16)) rfl ⟨ls1, rfl, ?_, B9.out⟩
      have := L9.out
      rw [HN.out.1, List.take_length] at this
      exact this

end Go.Proofs.Ytbbbgpdhdlknjaa
