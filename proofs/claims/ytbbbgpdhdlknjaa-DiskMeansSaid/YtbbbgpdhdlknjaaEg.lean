/- Disks: is a disk as the document's, and perhaps a beginning of the next step's bytes: the walk. -/
import Derived.Test.YtbbbgpdhdlknjaaEf
namespace Go.Proofs.Ytbbbgpdhdlknjaa
set_option linter.unusedVariables false
set_option linter.unusedSimpArgs false
open Go.RowKit Go.Lib

theorem str_guard (w : World) (op : BinOp) (x y : Operand) (a b : ByteArray) : (eqGuard op 9 x y (.string a) (.string b)).run Try.prog w = .ok () w := by
  cases op <;> rfl

theorem str_neq (w : World) (X O : List UInt8) : (binOp .neq 9 (.string ⟨X.toArray⟩) (.string ⟨O.toArray⟩)).run Try.prog w = .ok (.bool (X != O)) w := by
  have e : ∀ Y : List UInt8, (⟨Y.toArray⟩ : ByteArray).toList = Y := fun Y => by simp
  simp only [binOp, Op.stringOp, e]
  rfl

theorem str_neq' (w : World) (X O : List UInt8) (B : Bool) (h : (X != O) = B) : (binOp .neq 9 (.string ⟨X.toArray⟩) (.string ⟨O.toArray⟩)).run Try.prog w = .ok (.bool B) w := by
  rw [str_neq, h]

theorem int_guard (w : World) (op : BinOp) (x y : Operand) (a b : Int) : (eqGuard op 3 x y (.int .i64 a) (.int .i64 b)).run Try.prog w = .ok () w := by
  cases op <;> kernel_rfl

theorem int_ne' (w : World) (a b : Int) (B : Bool) (h : (a != b) = B) : (binOp .neq 3 (.int .i64 a) (.int .i64 b)).run Try.prog w = .ok (.bool B) w := by
  have e : (binOp .neq 3 (.int .i64 a) (.int .i64 b)).run Try.prog w = .ok (.bool (a != b)) w := by kernel_rfl
  rw [e, h]

theorem Rd.pre {w : World} {a : Option Addr} {n c : Nat} {l : Bs} (h : Rd w 1 (.slice a n c) n (bvs l)) {q : Nat} (hq : q ≤ n) : Rd w 1 (.slice a q c) q (bvs (l.take q)) := by
  have hl : l.length = n := by simpa using h.1
  refine ⟨by simp; omega, ?_⟩
  rcases h.2 with ⟨he, h0⟩ | ⟨ad, c', he, hnc, hcm, hcell⟩
  · simp only [Value.slice.injEq] at he
    obtain ⟨rfl, rfl, rfl⟩ := he
    obtain rfl : q = 0 := by omega
    exact .inl ⟨rfl, rfl⟩
  · simp only [Value.slice.injEq] at he
    obtain ⟨rfl, _, rfl⟩ := he
    refine .inr ⟨ad, _, rfl, by omega, hcm, fun j u hj => hcell j u ?_⟩
    rw [bvs, List.map_take, List.getElem?_take] at hj
    split at hj
    · exact hj
    · cases hj

/-- Steps that are read. -/
def Rest (w : World) (v : Value) (rest : List St) : Prop :=
  ∃ css : List (List Value), Rd w 4 v rest.length css.flatten ∧ css.length = rest.length ∧ ∀ (i : Nat) (x : St) (cs : List Value), rest[i]? = some x → css[i]? = some cs → PtC w cs x

theorem Rest.fresh {w w' : World} {v : Value} {rest : List St} (h : Rest w v rest) (hb : Below w.heap.size w w') : Rest w' v rest := by
  obtain ⟨css, h1, h2, h3⟩ := h
  exact ⟨css, h1.fresh hb, h2, fun i x cs hx hc => (h3 i x cs hx hc).fresh hb⟩

def NearOK (D R : List Bs) (rest : List St) : Prop := ∀ i, i < 16 → ∃ more, D.getD i [] = R.getD i [] ++ more ∧ (more = [] ∨ ∃ b r, rest = St.put i b :: r ∧ more.length ≤ b.length ∧ more = b.take more.length)

def IsN (Q : Prop) (e : Ending) : Prop := ∃ B : Bool, e = .returned (.bool B) ∧ (Q → B = true)

theorem Rest.first {w : World} {v : Value} {x : St} {r : List St} (h : Rest w v (x :: r)) : ∃ ad c cs, v = .slice (some ad) (r.length + 1) c ∧ PtC w cs x ∧ ∀ j u, cs[j]? = some u → w.cell? (ad.add j) = some u := by
  obtain ⟨css, h1, h2, h3⟩ := h
  rcases css with _ | ⟨cs, css⟩
  · simp at h2
  · have hp := h3 0 x cs rfl rfl
    rcases h1.2 with ⟨_, h0⟩ | ⟨ad, c, he, _, _, hc⟩
    · simp at h0
    · refine ⟨ad, c, cs, he, hp, fun j u hj => hc j u ?_⟩
      rw [List.flatten_cons, List.getElem?_append_left (List.getElem?_eq_some_iff.1 hj).1]
      exact hj

set_option maxRecDepth 100000 in
set_option maxHeartbeats 8000000 in
theorem near_any (w : World) (D S : Nat) (wv : Value) (kd : Dk) (G : Nat) (pv : Value) (set : List Bs) (wait : List St) (f : Int) (d : Bool) (rv : Value) (rest : List St) (h : DkAt w D S wv kd) (hdl : ∀ l ∈ kd.now, l.length ≤ 33554432) (hr : RkAt w G pv set wait f d)
    (hp : ∀ j, ∀ l ∈ (wait.take j).foldl app set, l.length ≤ 16777216) (hb : ∀ (j i : Nat) (b : Bs), wait[j]? = some (.put i b) → b.length ≤ 16777216) (hw : wait.length ≤ 1000000) (hrest : Rest w rv rest) (hrl : rest.length ≤ 1000000) :
    Calls Try.prog 17 #[.pointer (some ⟨D, 0, none⟩), .pointer (some ⟨G, 0, none⟩), rv] w fun e w' => IsN (NearOK kd.now (wait.foldl app set) rest) e ∧ Below w.heap.size w w' := by
  have NW := Lib.hid (now_any w G pv set wait f d hr hp hb hw)
  obtain ⟨css, hrr, hcl, hcs⟩ := hrest
  obtain ⟨ra, rc, rfl⟩ := hrr.slice
  obtain ⟨RN, hRN⟩ : ∃ RN, RN = rest.length := ⟨_, rfl⟩
  have HREST : Hid (Rest w (.slice ra RN rc) rest) := Lib.hid (by rw [hRN]; exact ⟨css, hrr, hcl, hcs⟩)
  have HRN := Lib.hid hRN
  rw [← hRN]
  obtain ⟨R, hR⟩ : ∃ R, R = wait.foldl app set := ⟨_, rfl⟩
  rw [← hR] at NW ⊢
  have HD := Lib.hid (And.intro h hdl)
  have bR : (RN : Int) ≤ 1000000 := by omega
  obtain ⟨Q, hQ⟩ : ∃ Q, Q = NearOK kd.now R rest := ⟨_, rfl⟩
  rw [← hQ]
  have HQ := Lib.hid hQ
  clear hrr hcl hcs hRN hR h hdl hr hp hb hw hrl hQ
  go_enter Try.func17, Try.ntmps17
  go_wp2_with fail
  refine (NW.out).mono ?_
  rintro e w1 ⟨ls1, rfl, l1, b1⟩
  go_wp2_with (with_reducible refine stopStore 38 ?_)
  refine Stop.go ?_
  obtain ⟨w2, h2, k2, b2, s2⟩ := alloc_cb w1 38 noLogs
  change wpList _ _ _ _ _ (w1.alloc (.cells noLogs.toArray 38))
  rw [← h2]
  obtain ⟨g7, hg7⟩ : ∃ g7, g7 = w1.heap.size := ⟨_, rfl⟩
  rw [← hg7] at k2 ⊢
  refine wpList_store_var rfl 38 (.tmp 7) (.tmp 13) rfl g7 _ rfl _ ls1 rfl k2 (by rw [l1.1]; rfl) l1.one (by rw [l1.1]; exact infoL16) ?_
  intro w3 k3 o3
  have B3 := Lib.hid (Below.only (b1.tr b2) o3 (by have := b1.size; omega))
  have L3 := Lib.hid ((l1.fresh b2).kt (Kt.only (E := [38]) o3 (CB.tag k2) (by simp)) (by decide))
  have K3 : Hid (CB w3 38 g7 ls1) := Lib.hid k3
  have D3 := Lib.hid (And.intro (HD.out.1.fresh B3.out) HD.out.2)
  have RS3 := Lib.hid (HREST.out.fresh B3.out)
  clear h2 k2 b2 s2 k3 o3 hg7 l1 b1 NW HD HREST
  go_wp2
  go_loopw [8] (fun v8 wr => Below w3.heap.size w3 wr ∧ ∃ i : Nat, i ≤ 16 ∧ v8 = .int .i64 (i : Int))
    (fun v _ => 16 - (RowKit.intOf v).toNat)
  case atStart => exact ⟨Below.refl _ _, 0, Nat.zero_le _, rfl⟩
  case round =>
    obtain ⟨hbw, i, hi, rfl⟩ := hrel
    have HB := Lib.hid hbw
    clear hbw
    by_cases hin : i < 16
    · have ij : (i : Int) < 16 := by omega
      have gd : (kd.now.getD i []).length ≤ 33554432 := by
        rcases Nat.lt_or_ge i kd.now.length with hlt | hge
        · exact D3.out.2 _ (by rw [List.getD_eq_getElem?_getD, List.getElem?_eq_getElem hlt]; exact List.getElem_mem hlt)
        · rw [List.getD_eq_getElem?_getD, List.getElem?_eq_none hge]
          simp
      have RD := Lib.hid (read_any wr D S wv kd i (D3.out.1.fresh HB.out) hin (by omega))
      obtain ⟨bd, hbd⟩ : ∃ bd, bd = kd.now.getD i [] := ⟨_, rfl⟩
      rw [← hbd] at RD gd
      obtain ⟨v1, br, hv1, hbr, hrd, hgd⟩ := L3.out.get hin
      obtain ⟨a1, c1, rfl⟩ := hrd.slice
      obtain ⟨n1, hn1⟩ : ∃ n1, n1 = br.length := ⟨_, rfl⟩
      rw [← hn1] at hv1
      have HN := Lib.hid (And.intro hbd (And.intro hgd (And.intro hn1 (And.intro gd hin))))
      have HV := Lib.hid (And.intro hv1 hrd)
      clear hv1 hbr hrd hgd hn1 hbd gd hi hin
      go_wp2_with fail
      refine RD.out.mono ?_
      rintro e w4 ⟨v4, rfl, o4, b4⟩
      have R4 := Lib.hid (RdU.of_own o4 (noAv _))
      obtain ⟨a3, c3, hv4⟩ := R4.out.slice
      obtain ⟨n3, hn3⟩ : ∃ n3, n3 = bd.length := ⟨_, rfl⟩
      rw [← hn3] at hv4
      subst hv4
      have B4 := Lib.hid (HB.out.tr b4 |> fun _ => HB.out.trans (b4.mono HB.out.size))
      have hS : Hid (w4.drew.cell? ⟨g7, i, none⟩ = some (.slice a1 n1 c1) ∧ Rd w4.drew 1 (.slice a1 n1 c1) n1 (bvs br) ∧ Rd w4.drew 1 (.slice a3 n3 c3) n3 (bvs bd)) := Lib.hid ⟨(K3.out.fresh B4.out).drew.cell i _ HV.out.1, by have := HV.out.2.1.fresh (B4.out.drew); rw [← HN.out.2.2.1] at this; exact this, by have := R4.out.1.fresh (Below.refl _ w4).drew; rw [← hn3] at this; exact this⟩
      have HN3 := Lib.hid hn3
      have bn1 : (n1 : Int) ≤ 9223372036854775807 := rd_small hS.out.2.1
      have bn3 : (n3 : Int) ≤ 33554432 := by have := HN.out.2.2.2.1; omega
      have bc3 : n3 ≤ c3 := by
        rcases hS.out.2.2.2 with ⟨he, _⟩ | ⟨_, _, he, hnc, _⟩
        · simp only [Value.slice.injEq] at he; omega
        · simp only [Value.slice.injEq] at he; omega
      clear o4 b4 RD hn3
      have NQ : Hid (Q → ∃ mo, bd = br ++ mo ∧ (mo = [] ∨ ∃ b r, rest = St.put i b :: r ∧ mo.length ≤ b.length ∧ mo = b.take mo.length)) := Lib.hid (fun hq => by
        rw [HQ.out] at hq
        obtain ⟨mo, h1, h2⟩ := hq i HN.out.2.2.2.2
        rw [← HN.out.1, HN.out.2.1] at h1
        exact ⟨mo, h1, h2⟩)
      have BF : Hid (Below w.heap.size w w4.drew) := Lib.hid ((B3.out.trans (B4.out.mono B3.out.size)).drew)
      have B4D : Hid (Below w3.heap.size w3 w4.drew) := Lib.hid B4.out.drew
      by_cases hlt : n3 < n1
      · have f1 : (n3 : Int) < (n1 : Int) := by omega
        have f2 : (decide (n3 < n1)) = true := decide_eq_true hlt
        have HLT := Lib.hid hlt
        clear hlt
        go_wp2_with fail
        refine pl_start 21 rfl (fun w' => w'.cell? ⟨g7, i, none⟩ = some (.slice a1 n1 c1) ∧ Rd w' 1 (.slice a1 n1 c1) n1 (bvs br) ∧ Rd w' 1 (.slice a3 n3 c3) n3 (bvs bd)) (by kernel_rfl) ?_
        refine pl_take (i := 0) 24 rfl rfl rfl (by kernel_rfl) (by kernel_rfl) (by kernel_rfl) (by simp [Act.put]) hS.out ?_
        apply Exists.intro
        refine And.intro (fun w' hS' => ?_) ?_
        · clear hS'
          go_wp2
          first
            | exact ⟨trivial, rfl⟩
            | exact rfl
        refine pl_take (i := 1) 25 rfl rfl rfl (by kernel_rfl) (by kernel_rfl) (by kernel_rfl) (by simp [Act.put]) hS.out ?_
        apply Exists.intro
        refine And.intro (fun w' hS' => ?_) ?_
        · clear hS'
          go_wp2
          first
            | exact ⟨trivial, rfl⟩
            | exact rfl
        refine pl_take (i := 2) 26 rfl rfl rfl (by kernel_rfl) (by kernel_rfl) (by kernel_rfl) (by simp [Act.put]) hS.out ?_
        apply Exists.intro
        refine And.intro (fun w' hS' => ?_) ?_
        · clear hS'
          go_wp2
          first
            | exact ⟨trivial, rfl⟩
            | exact rfl
        refine pl_take (i := 3) 27 rfl rfl rfl (by kernel_rfl) (by kernel_rfl) (by kernel_rfl) (by simp [Act.put]) hS.out ?_
        apply Exists.intro
        refine And.intro (fun w' hS' => ?_) ?_
        · clear hS'
          go_wp2
          first
            | exact ⟨trivial, rfl⟩
            | exact rfl
        refine pl_take (i := 4) 28 rfl rfl rfl (by kernel_rfl) (by kernel_rfl) (by kernel_rfl) (by simp [Act.put]) hS.out ?_
        apply Exists.intro
        refine And.intro (fun w' hS' => ?_) ?_
        · have hc := hS'.1
          clear hS'
          go_wp2
          first
            | exact ⟨trivial, rfl⟩
            | exact rfl
        refine pl_take (i := 5) 29 rfl rfl rfl (by kernel_rfl) (by kernel_rfl) (by kernel_rfl) (by simp [Act.put]) hS.out ?_
        apply Exists.intro
        refine And.intro (fun w' hS' => ?_) ?_
        · clear hS'
          go_wp2
          first
            | exact ⟨trivial, rfl⟩
            | exact rfl
        refine pl_take (i := 6) 30 rfl rfl rfl (by kernel_rfl) (by kernel_rfl) (by kernel_rfl) (by simp [Act.put]) hS.out ?_
        apply Exists.intro
        refine And.intro (fun w' hS' => ?_) ?_
        · clear hS'
          go_wp2
          first
            | exact ⟨trivial, rfl⟩
            | exact rfl
        refine pl_take (i := 7) 31 rfl rfl rfl (by kernel_rfl) (by kernel_rfl) (by kernel_rfl) (by simp [Act.put]) hS.out ?_
        apply Exists.intro
        refine And.intro (fun w' hS' => ?_) ?_
        · clear hS'
          go_wp2
          first
            | exact ⟨trivial, rfl⟩
            | exact rfl
        refine pl_skip (i := 8) rfl (by kernel_rfl) (by kernel_rfl) (by kernel_rfl) (by kernel_rfl) hS.out ?_
        apply Exists.intro
        refine And.intro (by simp [Act.put, go_sem]; rfl) ?_
        refine pl_skip (i := 9) rfl (by kernel_rfl) (by kernel_rfl) (by kernel_rfl) (by kernel_rfl) hS.out ?_
        apply Exists.intro
        refine And.intro (by simp [Act.put, go_sem]; rfl) ?_
        refine pl_skip (i := 10) rfl (by kernel_rfl) (by kernel_rfl) (by kernel_rfl) (by kernel_rfl) hS.out ?_
        apply Exists.intro
        refine And.intro (by simp [Act.put, go_sem]; rfl) ?_
        refine pl_skip (i := 11) rfl (by kernel_rfl) (by kernel_rfl) (by kernel_rfl) (by kernel_rfl) hS.out ?_
        apply Exists.intro
        refine And.intro (by simp [Act.put, go_sem]; rfl) ?_
        refine pl_skip (i := 12) rfl (by kernel_rfl) (by kernel_rfl) (by kernel_rfl) (by kernel_rfl) hS.out ?_
        apply Exists.intro
        refine And.intro (by simp [Act.put, go_sem]; rfl) ?_
        refine pl_skip (i := 13) rfl (by kernel_rfl) (by kernel_rfl) (by kernel_rfl) (by kernel_rfl) hS.out ?_
        apply Exists.intro
        refine And.intro (by simp [Act.put, go_sem]; rfl) ?_
        refine pl_skip (i := 14) rfl (by kernel_rfl) (by kernel_rfl) (by kernel_rfl) (by kernel_rfl) hS.out ?_
        apply Exists.intro
        refine And.intro (by simp [Act.put, go_sem]; rfl) ?_
        refine pl_skip (i := 15) rfl (by kernel_rfl) (by kernel_rfl) (by kernel_rfl) (by kernel_rfl) hS.out ?_
        apply Exists.intro
        refine And.intro (by simp [Act.put, go_sem]; rfl) ?_
        refine pl_skip (i := 16) rfl (by kernel_rfl) (by kernel_rfl) (by kernel_rfl) (by kernel_rfl) hS.out ?_
        apply Exists.intro
        refine And.intro (by simp [Act.put, go_sem]; rfl) ?_
        refine pl_skip (i := 17) rfl (by kernel_rfl) (by kernel_rfl) (by kernel_rfl) (by kernel_rfl) hS.out ?_
        apply Exists.intro
        refine And.intro (by simp [Act.put, go_sem]; rfl) ?_
        refine pl_skip (i := 18) rfl (by kernel_rfl) (by kernel_rfl) (by kernel_rfl) (by kernel_rfl) hS.out ?_
        apply Exists.intro
        refine And.intro (by simp [Act.put, go_sem]; rfl) ?_
        refine pl_skip (i := 19) rfl (by kernel_rfl) (by kernel_rfl) (by kernel_rfl) (by kernel_rfl) hS.out ?_
        apply Exists.intro
        refine And.intro (by simp [Act.put, go_sem]; rfl) ?_
        refine pl_take (i := 20) 44 rfl rfl rfl (by kernel_rfl) (by kernel_rfl) (by kernel_rfl) (by simp [Act.put]) hS.out ?_
        apply Exists.intro
        refine And.intro (fun w' hS' => ?_) ?_
        · clear hS'
          go_wp2
          first
            | exact ⟨trivial, rfl⟩
            | exact rfl
        refine pl_done (by kernel_rfl) ?_
        go_wp2
        go_ret
        exact ⟨⟨false, rfl, fun hq => absurd (NQ.out hq) (by
                    rintro ⟨mo, h1, _⟩
                    have h2 := HLT.out
                    have h3 := HN3.out
                    have h4 := HN.out.2.2.1
                    rw [h1, List.length_append] at h3
                    omega)⟩, BF.out⟩
      · have f1 : ¬ (n3 : Int) < (n1 : Int) := by omega
        have f2 : (decide (n3 < n1)) = false := decide_eq_false hlt
        have LE : Hid (n1 ≤ n3) := Lib.hid (by omega)
        have bnc : (n1 : Int) ≤ (c3 : Int) := by omega
        have TL : Hid ((bd.take n1).length = n1) := Lib.hid (by rw [List.length_take]; have h1 := LE.out; have h2 := HN3.out; omega)
        have hle : n1 ≤ n3 := LE.out
        clear hlt
        by_cases heq : bd.take n1 = br
        · have HEQ : Hid ((bd.take n1 != br) = false) := Lib.hid (by simpa using heq)
          have HTK := Lib.hid heq
          clear heq
          go_wp2_with fail
          refine pl_start 21 rfl (fun w' => w'.cell? ⟨g7, i, none⟩ = some (.slice a1 n1 c1) ∧ Rd w' 1 (.slice a1 n1 c1) n1 (bvs br) ∧ Rd w' 1 (.slice a3 n3 c3) n3 (bvs bd)) (by kernel_rfl) ?_
          refine pl_take (i := 0) 24 rfl rfl rfl (by kernel_rfl) (by kernel_rfl) (by kernel_rfl) (by simp [Act.put]) hS.out ?_
          apply Exists.intro
          refine And.intro (fun w' hS' => ?_) ?_
          · clear hS'
            go_wp2
            first
              | exact ⟨trivial, rfl⟩
              | exact rfl
          refine pl_take (i := 1) 25 rfl rfl rfl (by kernel_rfl) (by kernel_rfl) (by kernel_rfl) (by simp [Act.put]) hS.out ?_
          apply Exists.intro
          refine And.intro (fun w' hS' => ?_) ?_
          · clear hS'
            go_wp2
            first
              | exact ⟨trivial, rfl⟩
              | exact rfl
          refine pl_take (i := 2) 26 rfl rfl rfl (by kernel_rfl) (by kernel_rfl) (by kernel_rfl) (by simp [Act.put]) hS.out ?_
          apply Exists.intro
          refine And.intro (fun w' hS' => ?_) ?_
          · clear hS'
            go_wp2
            first
              | exact ⟨trivial, rfl⟩
              | exact rfl
          refine pl_take (i := 3) 27 rfl rfl rfl (by kernel_rfl) (by kernel_rfl) (by kernel_rfl) (by simp [Act.put]) hS.out ?_
          apply Exists.intro
          refine And.intro (fun w' hS' => ?_) ?_
          · clear hS'
            go_wp2
            first
              | exact ⟨trivial, rfl⟩
              | exact rfl
          refine pl_take (i := 4) 28 rfl rfl rfl (by kernel_rfl) (by kernel_rfl) (by kernel_rfl) (by simp [Act.put]) hS.out ?_
          apply Exists.intro
          refine And.intro (fun w' hS' => ?_) ?_
          · have hc := hS'.1
            clear hS'
            go_wp2
            first
              | exact ⟨trivial, rfl⟩
              | exact rfl
          refine pl_take (i := 5) 29 rfl rfl rfl (by kernel_rfl) (by kernel_rfl) (by kernel_rfl) (by simp [Act.put]) hS.out ?_
          apply Exists.intro
          refine And.intro (fun w' hS' => ?_) ?_
          · clear hS'
            go_wp2
            first
              | exact ⟨trivial, rfl⟩
              | exact rfl
          refine pl_take (i := 6) 30 rfl rfl rfl (by kernel_rfl) (by kernel_rfl) (by kernel_rfl) (by simp [Act.put]) hS.out ?_
          apply Exists.intro
          refine And.intro (fun w' hS' => ?_) ?_
          · clear hS'
            go_wp2
            first
              | exact ⟨trivial, rfl⟩
              | exact rfl
          refine pl_take (i := 7) 31 rfl rfl rfl (by kernel_rfl) (by kernel_rfl) (by kernel_rfl) (by simp [Act.put]) hS.out ?_
          apply Exists.intro
          refine And.intro (fun w' hS' => ?_) ?_
          · clear hS'
            go_wp2
            first
              | exact ⟨trivial, rfl⟩
              | exact rfl
          refine pl_take (i := 8) 32 rfl rfl rfl (by kernel_rfl) (by kernel_rfl) (by kernel_rfl) (by simp [Act.put]) hS.out ?_
          apply Exists.intro
          refine And.intro (fun w' hS' => ?_) ?_
          · refine wpList_unguard' rfl ?_
            clear hS'
            go_wp2
            first
              | exact ⟨trivial, rfl⟩
              | exact rfl
          refine pl_take (i := 9) 33 rfl rfl rfl (by kernel_rfl) (by kernel_rfl) (by kernel_rfl) (by simp [Act.put]) hS.out ?_
          apply Exists.intro
          refine And.intro (fun w' hS' => ?_) ?_
          · refine wpList_unguard' rfl ?_
            clear hS'
            go_wp2
            first
              | exact ⟨trivial, rfl⟩
              | exact rfl
          refine pl_take (i := 10) 34 rfl rfl rfl (by kernel_rfl) (by kernel_rfl) (by kernel_rfl) (by simp [Act.put]) hS.out ?_
          apply Exists.intro
          refine And.intro (fun w' hS' => ?_) ?_
          · refine wpList_unguard' rfl ?_
            clear hS'
            go_wp2
            first
              | exact ⟨trivial, rfl⟩
              | exact rfl
          refine pl_take (i := 11) 35 rfl rfl rfl (by kernel_rfl) (by kernel_rfl) (by kernel_rfl) (by simp [Act.put]) hS.out ?_
          apply Exists.intro
          refine And.intro (fun w' hS' => ?_) ?_
          · refine wpList_unguard' rfl ?_
            have hc := hS'.1
            clear hS'
            go_wp2
            first
              | exact ⟨trivial, rfl⟩
              | exact rfl
          refine pl_take (i := 12) 36 rfl rfl rfl (by kernel_rfl) (by kernel_rfl) (by kernel_rfl) (by simp [Act.put]) hS.out ?_
          apply Exists.intro
          refine And.intro (fun w' hS' => ?_) ?_
          · refine wpList_unguard' rfl ?_
            clear hS'
            go_wp2
            first
              | exact ⟨trivial, rfl⟩
              | exact rfl
          refine pl_take (i := 13) 37 rfl rfl rfl (by kernel_rfl) (by kernel_rfl) (by kernel_rfl) (by simp [Act.put]) hS.out ?_
          apply Exists.intro
          refine And.intro (fun w' hS' => ?_) ?_
          · refine wpList_unguard' rfl ?_
            clear hS'
            go_wp2
            first
              | exact ⟨trivial, rfl⟩
              | exact rfl
          refine pl_take (i := 14) 38 rfl rfl rfl (by kernel_rfl) (by kernel_rfl) (by kernel_rfl) (by simp [Act.put]) hS.out ?_
          apply Exists.intro
          refine And.intro (fun w' hS' => ?_) ?_
          · refine wpList_unguard' rfl ?_
            have hp := (Rd.pre hS'.2.2 (q := n1) LE.out)
            have hcv := Rd.conv (P := Try.prog) (l := bd.take n1) (by rw [TL.out]; exact hp) 29 9 5 Try.underlying29 Try.underlying5 Try.underlying9
            clear hp
            clear hS'
            go_wp2
            first
              | exact ⟨trivial, rfl⟩
              | exact rfl
          refine pl_take (i := 15) 39 rfl rfl rfl (by kernel_rfl) (by kernel_rfl) (by kernel_rfl) (by simp [Act.put]) hS.out ?_
          apply Exists.intro
          refine And.intro (fun w' hS' => ?_) ?_
          · refine wpList_unguard' rfl ?_
            clear hS'
            go_wp2
            first
              | exact ⟨trivial, rfl⟩
              | exact rfl
          refine pl_take (i := 16) 40 rfl rfl rfl (by kernel_rfl) (by kernel_rfl) (by kernel_rfl) (by simp [Act.put]) hS.out ?_
          apply Exists.intro
          refine And.intro (fun w' hS' => ?_) ?_
          · refine wpList_unguard' rfl ?_
            clear hS'
            go_wp2
            first
              | exact ⟨trivial, rfl⟩
              | exact rfl
          refine pl_take (i := 17) 41 rfl rfl rfl (by kernel_rfl) (by kernel_rfl) (by kernel_rfl) (by simp [Act.put]) hS.out ?_
          apply Exists.intro
          refine And.intro (fun w' hS' => ?_) ?_
          · refine wpList_unguard' rfl ?_
            have hc := hS'.1
            clear hS'
            go_wp2
            first
              | exact ⟨trivial, rfl⟩
              | exact rfl
          refine pl_take (i := 18) 42 rfl rfl rfl (by kernel_rfl) (by kernel_rfl) (by kernel_rfl) (by simp [Act.put]) hS.out ?_
          apply Exists.intro
          refine And.intro (fun w' hS' => ?_) ?_
          · refine wpList_unguard' rfl ?_
            have hcv := Rd.conv (P := Try.prog) (l := br) (by rw [← HN.out.2.2.1]; exact hS'.2.1) 29 9 5 Try.underlying29 Try.underlying5 Try.underlying9
            clear hS'
            go_wp2
            first
              | exact ⟨trivial, rfl⟩
              | exact rfl
          refine pl_take (i := 19) 43 rfl rfl rfl (by kernel_rfl) (by kernel_rfl) (by kernel_rfl) (by simp [Act.put]) hS.out ?_
          apply Exists.intro
          refine And.intro (fun w' hS' => ?_) ?_
          · refine wpList_unguard' rfl ?_
            refine wpList_bin rfl .neq 9 9 (.tmp 38) (.tmp 42) rfl (.bool false) (str_guard _ _ _ _ _ _) (str_neq' _ _ _ _ (by simpa using HEQ.out)) ?_
            clear hS'
            go_wp2
            first
              | exact ⟨trivial, rfl⟩
              | exact rfl
          refine pl_take (i := 20) 44 rfl rfl rfl (by kernel_rfl) (by kernel_rfl) (by kernel_rfl) (by simp [Act.put]) hS.out ?_
          apply Exists.intro
          refine And.intro (fun w' hS' => ?_) ?_
          · clear hS'
            go_wp2
            first
              | exact ⟨trivial, rfl⟩
              | exact rfl
          refine pl_done (by kernel_rfl) ?_
          obtain ⟨m, hm⟩ : ∃ m, m = n3 - n1 := ⟨_, rfl⟩
          obtain ⟨c4, hc4⟩ : ∃ c4, c4 = c3 - n1 := ⟨_, rfl⟩
          obtain ⟨a4, ha4⟩ : ∃ a4, a4 = if c3 = n1 then a3 else a3.map (·.add (n1 * 1)) := ⟨_, rfl⟩
          have RM : Hid (Rd w4.drew 1 (.slice a4 m c4) m (bvs (bd.drop n1))) := Lib.hid (by
            have := hS.out.2.2.sub n1 m (by omega)
            rw [← ha4, ← hc4, Nat.mul_one, Nat.mul_one] at this
            rw [show (bvs (bd.drop n1)) = ((bvs bd).drop n1).take m from by
              rw [List.take_of_length_le (by rw [List.length_drop, bvs_length]; have := HN3.out; omega)]
              simp [bvs]]
            exact this)
          have ML : Hid (m = (bd.drop n1).length) := Lib.hid (by rw [List.length_drop]; have := HN3.out; omega)
          have bm : (m : Int) ≤ 33554432 := by omega
          have HM := Lib.hid (And.intro hm (And.intro hc4 ha4))
          have LEI : (n1 : Int) ≤ (n3 : Int) := by omega
          have hcA := hS.out.1
          have bcn : n3 ≤ c3 := bc3
          clear hm hc4 ha4
          go_wp2_with (with_reducible refine stopAt 50 ?_)
          refine Stop.go ?_
          refine wpList_slice rfl 29 (.tmp 45) _ _ _ rfl (.slice a4 m c4) (by rw [HM.out.1, HM.out.2.1, HM.out.2.2]; exact run_slice_from Try.underlying29 infoU8' a3 n3 c3 n1 LE.out) ?_
          clear hcA
          have MO : Hid (∀ mo, bd = br ++ mo → bd.drop n1 = mo) := Lib.hid (fun mo h => by rw [h, HN.out.2.2.1, List.drop_left])
          clear hS
          by_cases h0 : m = 0
          · subst h0
            have hS : Hid (Below w4.heap.size w4 w4.drew.drew) := Lib.hid (Below.refl _ w4).drew.drew
            go_wp2_with fail
            refine pl_start 45 rfl (fun w' => Below w4.heap.size w4 w') (by kernel_rfl) ?_
            refine pl_take (i := 0) 51 rfl rfl rfl (by kernel_rfl) (by kernel_rfl) (by kernel_rfl) (by simp [Act.put]) hS.out ?_
            apply Exists.intro
            refine And.intro (fun w' hS' => ?_) ?_
            · clear hS'
              go_wp2
              first
                | exact ⟨trivial, rfl⟩
                | exact rfl
            refine pl_take (i := 1) 52 rfl rfl rfl (by kernel_rfl) (by kernel_rfl) (by kernel_rfl) (by simp [Act.put]) hS.out ?_
            apply Exists.intro
            refine And.intro (fun w' hS' => ?_) ?_
            · clear hS'
              go_wp2
              first
                | exact ⟨trivial, rfl⟩
                | exact rfl
            refine pl_take (i := 2) 53 rfl rfl rfl (by kernel_rfl) (by kernel_rfl) (by kernel_rfl) (by simp [Act.put]) hS.out ?_
            apply Exists.intro
            refine And.intro (fun w' hS' => ?_) ?_
            · clear hS'
              go_wp2
              first
                | exact ⟨trivial, rfl⟩
                | exact rfl
            refine pl_take (i := 3) 54 rfl rfl rfl (by kernel_rfl) (by kernel_rfl) (by kernel_rfl) (by simp [Act.put]) hS.out ?_
            apply Exists.intro
            refine And.intro (fun w' hS' => ?_) ?_
            · clear hS'
              go_wp2
              first
                | exact ⟨trivial, rfl⟩
                | exact rfl
            refine pl_skip (i := 4) rfl (by kernel_rfl) (by kernel_rfl) (by kernel_rfl) (by kernel_rfl) hS.out ?_
            apply Exists.intro
            refine And.intro (by simp [Act.put, go_sem]; rfl) ?_
            refine pl_skip (i := 5) rfl (by kernel_rfl) (by kernel_rfl) (by kernel_rfl) (by kernel_rfl) hS.out ?_
            apply Exists.intro
            refine And.intro (by simp [Act.put, go_sem]; rfl) ?_
            refine pl_skip (i := 6) rfl (by kernel_rfl) (by kernel_rfl) (by kernel_rfl) (by kernel_rfl) hS.out ?_
            apply Exists.intro
            refine And.intro (by simp [Act.put, go_sem]; rfl) ?_
            refine pl_skip (i := 7) rfl (by kernel_rfl) (by kernel_rfl) (by kernel_rfl) (by kernel_rfl) hS.out ?_
            apply Exists.intro
            refine And.intro (by simp [Act.put, go_sem]; rfl) ?_
            refine pl_skip (i := 8) rfl (by kernel_rfl) (by kernel_rfl) (by kernel_rfl) (by kernel_rfl) hS.out ?_
            apply Exists.intro
            refine And.intro (by simp [Act.put, go_sem]; rfl) ?_
            refine pl_skip (i := 9) rfl (by kernel_rfl) (by kernel_rfl) (by kernel_rfl) (by kernel_rfl) hS.out ?_
            apply Exists.intro
            refine And.intro (by simp [Act.put, go_sem]; rfl) ?_
            refine pl_skip (i := 10) rfl (by kernel_rfl) (by kernel_rfl) (by kernel_rfl) (by kernel_rfl) hS.out ?_
            apply Exists.intro
            refine And.intro (by simp [Act.put, go_sem]; rfl) ?_
            refine pl_skip (i := 11) rfl (by kernel_rfl) (by kernel_rfl) (by kernel_rfl) (by kernel_rfl) hS.out ?_
            apply Exists.intro
            refine And.intro (by simp [Act.put, go_sem]; rfl) ?_
            refine pl_skip (i := 12) rfl (by kernel_rfl) (by kernel_rfl) (by kernel_rfl) (by kernel_rfl) hS.out ?_
            apply Exists.intro
            refine And.intro (by simp [Act.put, go_sem]; rfl) ?_
            refine pl_skip (i := 13) rfl (by kernel_rfl) (by kernel_rfl) (by kernel_rfl) (by kernel_rfl) hS.out ?_
            apply Exists.intro
            refine And.intro (by simp [Act.put, go_sem]; rfl) ?_
            refine pl_skip (i := 14) rfl (by kernel_rfl) (by kernel_rfl) (by kernel_rfl) (by kernel_rfl) hS.out ?_
            apply Exists.intro
            refine And.intro (by simp [Act.put, go_sem]; rfl) ?_
            refine pl_skip (i := 15) rfl (by kernel_rfl) (by kernel_rfl) (by kernel_rfl) (by kernel_rfl) hS.out ?_
            apply Exists.intro
            refine And.intro (by simp [Act.put, go_sem]; rfl) ?_
            refine pl_skip (i := 16) rfl (by kernel_rfl) (by kernel_rfl) (by kernel_rfl) (by kernel_rfl) hS.out ?_
            apply Exists.intro
            refine And.intro (by simp [Act.put, go_sem]; rfl) ?_
            refine pl_skip (i := 17) rfl (by kernel_rfl) (by kernel_rfl) (by kernel_rfl) (by kernel_rfl) hS.out ?_
            apply Exists.intro
            refine And.intro (by simp [Act.put, go_sem]; rfl) ?_
            refine pl_skip (i := 18) rfl (by kernel_rfl) (by kernel_rfl) (by kernel_rfl) (by kernel_rfl) hS.out ?_
            apply Exists.intro
            refine And.intro (by simp [Act.put, go_sem]; rfl) ?_
            refine pl_skip (i := 19) rfl (by kernel_rfl) (by kernel_rfl) (by kernel_rfl) (by kernel_rfl) hS.out ?_
            apply Exists.intro
            refine And.intro (by simp [Act.put, go_sem]; rfl) ?_
            refine pl_skip (i := 20) rfl (by kernel_rfl) (by kernel_rfl) (by kernel_rfl) (by kernel_rfl) hS.out ?_
            apply Exists.intro
            refine And.intro (by simp [Act.put, go_sem]; rfl) ?_
            refine pl_skip (i := 21) rfl (by kernel_rfl) (by kernel_rfl) (by kernel_rfl) (by kernel_rfl) hS.out ?_
            apply Exists.intro
            refine And.intro (by simp [Act.put, go_sem]; rfl) ?_
            refine pl_skip (i := 22) rfl (by kernel_rfl) (by kernel_rfl) (by kernel_rfl) (by kernel_rfl) hS.out ?_
            apply Exists.intro
            refine And.intro (by simp [Act.put, go_sem]; rfl) ?_
            refine pl_skip (i := 23) rfl (by kernel_rfl) (by kernel_rfl) (by kernel_rfl) (by kernel_rfl) hS.out ?_
            apply Exists.intro
            refine And.intro (by simp [Act.put, go_sem]; rfl) ?_
            refine pl_skip (i := 24) rfl (by kernel_rfl) (by kernel_rfl) (by kernel_rfl) (by kernel_rfl) hS.out ?_
            apply Exists.intro
            refine And.intro (by simp [Act.put, go_sem]; rfl) ?_
            refine pl_skip (i := 25) rfl (by kernel_rfl) (by kernel_rfl) (by kernel_rfl) (by kernel_rfl) hS.out ?_
            apply Exists.intro
            refine And.intro (by simp [Act.put, go_sem]; rfl) ?_
            refine pl_skip (i := 26) rfl (by kernel_rfl) (by kernel_rfl) (by kernel_rfl) (by kernel_rfl) hS.out ?_
            apply Exists.intro
            refine And.intro (by simp [Act.put, go_sem]; rfl) ?_
            refine pl_skip (i := 27) rfl (by kernel_rfl) (by kernel_rfl) (by kernel_rfl) (by kernel_rfl) hS.out ?_
            apply Exists.intro
            refine And.intro (by simp [Act.put, go_sem]; rfl) ?_
            refine pl_skip (i := 28) rfl (by kernel_rfl) (by kernel_rfl) (by kernel_rfl) (by kernel_rfl) hS.out ?_
            apply Exists.intro
            refine And.intro (by simp [Act.put, go_sem]; rfl) ?_
            refine pl_skip (i := 29) rfl (by kernel_rfl) (by kernel_rfl) (by kernel_rfl) (by kernel_rfl) hS.out ?_
            apply Exists.intro
            refine And.intro (by simp [Act.put, go_sem]; rfl) ?_
            refine pl_skip (i := 30) rfl (by kernel_rfl) (by kernel_rfl) (by kernel_rfl) (by kernel_rfl) hS.out ?_
            apply Exists.intro
            refine And.intro (by simp [Act.put, go_sem]; rfl) ?_
            refine pl_skip (i := 31) rfl (by kernel_rfl) (by kernel_rfl) (by kernel_rfl) (by kernel_rfl) hS.out ?_
            apply Exists.intro
            refine And.intro (by simp [Act.put, go_sem]; rfl) ?_
            refine pl_skip (i := 32) rfl (by kernel_rfl) (by kernel_rfl) (by kernel_rfl) (by kernel_rfl) hS.out ?_
            apply Exists.intro
            refine And.intro (by simp [Act.put, go_sem]; rfl) ?_
            refine pl_skip (i := 33) rfl (by kernel_rfl) (by kernel_rfl) (by kernel_rfl) (by kernel_rfl) hS.out ?_
            apply Exists.intro
            refine And.intro (by simp [Act.put, go_sem]; rfl) ?_
            refine pl_skip (i := 34) rfl (by kernel_rfl) (by kernel_rfl) (by kernel_rfl) (by kernel_rfl) hS.out ?_
            apply Exists.intro
            refine And.intro (by simp [Act.put, go_sem]; rfl) ?_
            refine pl_skip (i := 35) rfl (by kernel_rfl) (by kernel_rfl) (by kernel_rfl) (by kernel_rfl) hS.out ?_
            apply Exists.intro
            refine And.intro (by simp [Act.put, go_sem]; rfl) ?_
            refine pl_skip (i := 36) rfl (by kernel_rfl) (by kernel_rfl) (by kernel_rfl) (by kernel_rfl) hS.out ?_
            apply Exists.intro
            refine And.intro (by simp [Act.put, go_sem]; rfl) ?_
            refine pl_skip (i := 37) rfl (by kernel_rfl) (by kernel_rfl) (by kernel_rfl) (by kernel_rfl) hS.out ?_
            apply Exists.intro
            refine And.intro (by simp [Act.put, go_sem]; rfl) ?_
            refine pl_skip (i := 38) rfl (by kernel_rfl) (by kernel_rfl) (by kernel_rfl) (by kernel_rfl) hS.out ?_
            apply Exists.intro
            refine And.intro (by simp [Act.put, go_sem]; rfl) ?_
            refine pl_skip (i := 39) rfl (by kernel_rfl) (by kernel_rfl) (by kernel_rfl) (by kernel_rfl) hS.out ?_
            apply Exists.intro
            refine And.intro (by simp [Act.put, go_sem]; rfl) ?_
            refine pl_skip (i := 40) rfl (by kernel_rfl) (by kernel_rfl) (by kernel_rfl) (by kernel_rfl) hS.out ?_
            apply Exists.intro
            refine And.intro (by simp [Act.put, go_sem]; rfl) ?_
            refine pl_skip (i := 41) rfl (by kernel_rfl) (by kernel_rfl) (by kernel_rfl) (by kernel_rfl) hS.out ?_
            apply Exists.intro
            refine And.intro (by simp [Act.put, go_sem]; rfl) ?_
            refine pl_skip (i := 42) rfl (by kernel_rfl) (by kernel_rfl) (by kernel_rfl) (by kernel_rfl) hS.out ?_
            apply Exists.intro
            refine And.intro (by simp [Act.put, go_sem]; rfl) ?_
            refine pl_skip (i := 43) rfl (by kernel_rfl) (by kernel_rfl) (by kernel_rfl) (by kernel_rfl) hS.out ?_
            apply Exists.intro
            refine And.intro (by simp [Act.put, go_sem]; rfl) ?_
            refine pl_take (i := 44) 95 rfl rfl rfl (by kernel_rfl) (by kernel_rfl) (by kernel_rfl) (by simp [Act.put]) hS.out ?_
            apply Exists.intro
            refine And.intro (fun w' hS' => ?_) ?_
            · clear hS'
              go_wp2
              first
                | exact ⟨trivial, rfl⟩
                | exact rfl
            refine pl_done (by kernel_rfl) ?_
            go_wp2
            go_roundw
            case rel => exact ⟨B4D.out.drew, i + 1, HN.out.2.2.2.2, by go_num⟩
            case measure => have := HN.out.2.2.2.2; simp only [RowKit.intOf]; omega
          · have m0 : 0 < (m : Int) := by omega
            have m1 : (decide ((0 : Int) < (m : Int))) = true := decide_eq_true m0
            have m2 : (decide (0 < m)) = true := decide_eq_true (by omega)
            have HM0 := Lib.hid h0
            have BFD : Hid (Below w.heap.size w w4.drew.drew) := Lib.hid BF.out.drew
            clear h0
            cases hrc : rest with
            | nil =>
              obtain rfl : RN = 0 := by rw [HRN.out, hrc]; rfl
              have HRC := Lib.hid hrc
              clear hrc
              have hS : Hid (Below w4.heap.size w4 w4.drew.drew) := Lib.hid (Below.refl _ w4).drew.drew
              go_wp2_with fail
              refine pl_start 45 rfl (fun w' => Below w4.heap.size w4 w') (by kernel_rfl) ?_
              refine pl_take (i := 0) 51 rfl rfl rfl (by kernel_rfl) (by kernel_rfl) (by kernel_rfl) (by simp [Act.put]) hS.out ?_
              apply Exists.intro
              refine And.intro (fun w' hS' => ?_) ?_
              · clear hS'
                go_wp2
                first
                  | exact ⟨trivial, rfl⟩
                  | exact rfl
              refine pl_take (i := 1) 52 rfl rfl rfl (by kernel_rfl) (by kernel_rfl) (by kernel_rfl) (by simp [Act.put]) hS.out ?_
              apply Exists.intro
              refine And.intro (fun w' hS' => ?_) ?_
              · clear hS'
                go_wp2
                first
                  | exact ⟨trivial, rfl⟩
                  | exact rfl
              refine pl_take (i := 2) 53 rfl rfl rfl (by kernel_rfl) (by kernel_rfl) (by kernel_rfl) (by simp [Act.put]) hS.out ?_
              apply Exists.intro
              refine And.intro (fun w' hS' => ?_) ?_
              · clear hS'
                go_wp2
                first
                  | exact ⟨trivial, rfl⟩
                  | exact rfl
              refine pl_take (i := 3) 54 rfl rfl rfl (by kernel_rfl) (by kernel_rfl) (by kernel_rfl) (by simp [Act.put]) hS.out ?_
              apply Exists.intro
              refine And.intro (fun w' hS' => ?_) ?_
              · clear hS'
                go_wp2
                first
                  | exact ⟨trivial, rfl⟩
                  | exact rfl
              refine pl_take (i := 4) 55 rfl rfl rfl (by kernel_rfl) (by kernel_rfl) (by kernel_rfl) (by simp [Act.put]) hS.out ?_
              apply Exists.intro
              refine And.intro (fun w' hS' => ?_) ?_
              · refine wpList_unguard' rfl ?_
                clear hS'
                go_wp2
                first
                  | exact ⟨trivial, rfl⟩
                  | exact rfl
              refine pl_take (i := 5) 56 rfl rfl rfl (by kernel_rfl) (by kernel_rfl) (by kernel_rfl) (by simp [Act.put]) hS.out ?_
              apply Exists.intro
              refine And.intro (fun w' hS' => ?_) ?_
              · refine wpList_unguard' rfl ?_
                clear hS'
                go_wp2
                first
                  | exact ⟨trivial, rfl⟩
                  | exact rfl
              refine pl_take (i := 6) 57 rfl rfl rfl (by kernel_rfl) (by kernel_rfl) (by kernel_rfl) (by simp [Act.put]) hS.out ?_
              apply Exists.intro
              refine And.intro (fun w' hS' => ?_) ?_
              · refine wpList_unguard' rfl ?_
                clear hS'
                go_wp2
                first
                  | exact ⟨trivial, rfl⟩
                  | exact rfl
              refine pl_take (i := 7) 58 rfl rfl rfl (by kernel_rfl) (by kernel_rfl) (by kernel_rfl) (by simp [Act.put]) hS.out ?_
              apply Exists.intro
              refine And.intro (fun w' hS' => ?_) ?_
              · refine wpList_unguard' rfl ?_
                clear hS'
                go_wp2
                first
                  | exact ⟨trivial, rfl⟩
                  | exact rfl
              refine pl_skip (i := 8) rfl (by kernel_rfl) (by kernel_rfl) (by kernel_rfl) (by kernel_rfl) hS.out ?_
              apply Exists.intro
              refine And.intro (by simp [Act.put, go_sem]; rfl) ?_
              refine pl_skip (i := 9) rfl (by kernel_rfl) (by kernel_rfl) (by kernel_rfl) (by kernel_rfl) hS.out ?_
              apply Exists.intro
              refine And.intro (by simp [Act.put, go_sem]; rfl) ?_
              refine pl_skip (i := 10) rfl (by kernel_rfl) (by kernel_rfl) (by kernel_rfl) (by kernel_rfl) hS.out ?_
              apply Exists.intro
              refine And.intro (by simp [Act.put, go_sem]; rfl) ?_
              refine pl_skip (i := 11) rfl (by kernel_rfl) (by kernel_rfl) (by kernel_rfl) (by kernel_rfl) hS.out ?_
              apply Exists.intro
              refine And.intro (by simp [Act.put, go_sem]; rfl) ?_
              refine pl_take (i := 12) 63 rfl rfl rfl (by kernel_rfl) (by kernel_rfl) (by kernel_rfl) (by simp [Act.put]) hS.out ?_
              apply Exists.intro
              refine And.intro (fun w' hS' => ?_) ?_
              · refine wpList_unguard' rfl ?_
                clear hS'
                go_wp2
                first
                  | exact ⟨trivial, rfl⟩
                  | exact rfl
              refine pl_take (i := 13) 64 rfl rfl rfl (by kernel_rfl) (by kernel_rfl) (by kernel_rfl) (by simp [Act.put]) hS.out ?_
              apply Exists.intro
              refine And.intro (fun w' hS' => ?_) ?_
              · refine wpList_unguard' rfl ?_
                clear hS'
                go_wp2
                first
                  | exact ⟨trivial, rfl⟩
                  | exact rfl
              refine pl_skip (i := 14) rfl (by kernel_rfl) (by kernel_rfl) (by kernel_rfl) (by kernel_rfl) hS.out ?_
              apply Exists.intro
              refine And.intro (by simp [Act.put, go_sem]; rfl) ?_
              refine pl_skip (i := 15) rfl (by kernel_rfl) (by kernel_rfl) (by kernel_rfl) (by kernel_rfl) hS.out ?_
              apply Exists.intro
              refine And.intro (by simp [Act.put, go_sem]; rfl) ?_
              refine pl_skip (i := 16) rfl (by kernel_rfl) (by kernel_rfl) (by kernel_rfl) (by kernel_rfl) hS.out ?_
              apply Exists.intro
              refine And.intro (by simp [Act.put, go_sem]; rfl) ?_
              refine pl_skip (i := 17) rfl (by kernel_rfl) (by kernel_rfl) (by kernel_rfl) (by kernel_rfl) hS.out ?_
              apply Exists.intro
              refine And.intro (by simp [Act.put, go_sem]; rfl) ?_
              refine pl_skip (i := 18) rfl (by kernel_rfl) (by kernel_rfl) (by kernel_rfl) (by kernel_rfl) hS.out ?_
              apply Exists.intro
              refine And.intro (by simp [Act.put, go_sem]; rfl) ?_
              refine pl_skip (i := 19) rfl (by kernel_rfl) (by kernel_rfl) (by kernel_rfl) (by kernel_rfl) hS.out ?_
              apply Exists.intro
              refine And.intro (by simp [Act.put, go_sem]; rfl) ?_
              refine pl_take (i := 20) 71 rfl rfl rfl (by kernel_rfl) (by kernel_rfl) (by kernel_rfl) (by simp [Act.put]) hS.out ?_
              apply Exists.intro
              refine And.intro (fun w' hS' => ?_) ?_
              · refine wpList_unguard' rfl ?_
                clear hS'
                go_wp2
                first
                  | exact ⟨trivial, rfl⟩
                  | exact rfl
              refine pl_take (i := 21) 72 rfl rfl rfl (by kernel_rfl) (by kernel_rfl) (by kernel_rfl) (by simp [Act.put]) hS.out ?_
              apply Exists.intro
              refine And.intro (fun w' hS' => ?_) ?_
              · refine wpList_unguard' rfl ?_
                clear hS'
                go_wp2
                first
                  | exact ⟨trivial, rfl⟩
                  | exact rfl
              refine pl_skip (i := 22) rfl (by kernel_rfl) (by kernel_rfl) (by kernel_rfl) (by kernel_rfl) hS.out ?_
              apply Exists.intro
              refine And.intro (by simp [Act.put, go_sem]; rfl) ?_
              refine pl_skip (i := 23) rfl (by kernel_rfl) (by kernel_rfl) (by kernel_rfl) (by kernel_rfl) hS.out ?_
              apply Exists.intro
              refine And.intro (by simp [Act.put, go_sem]; rfl) ?_
              refine pl_skip (i := 24) rfl (by kernel_rfl) (by kernel_rfl) (by kernel_rfl) (by kernel_rfl) hS.out ?_
              apply Exists.intro
              refine And.intro (by simp [Act.put, go_sem]; rfl) ?_
              refine pl_skip (i := 25) rfl (by kernel_rfl) (by kernel_rfl) (by kernel_rfl) (by kernel_rfl) hS.out ?_
              apply Exists.intro
              refine And.intro (by simp [Act.put, go_sem]; rfl) ?_
              refine pl_skip (i := 26) rfl (by kernel_rfl) (by kernel_rfl) (by kernel_rfl) (by kernel_rfl) hS.out ?_
              apply Exists.intro
              refine And.intro (by simp [Act.put, go_sem]; rfl) ?_
              refine pl_skip (i := 27) rfl (by kernel_rfl) (by kernel_rfl) (by kernel_rfl) (by kernel_rfl) hS.out ?_
              apply Exists.intro
              refine And.intro (by simp [Act.put, go_sem]; rfl) ?_
              refine pl_skip (i := 28) rfl (by kernel_rfl) (by kernel_rfl) (by kernel_rfl) (by kernel_rfl) hS.out ?_
              apply Exists.intro
              refine And.intro (by simp [Act.put, go_sem]; rfl) ?_
              refine pl_skip (i := 29) rfl (by kernel_rfl) (by kernel_rfl) (by kernel_rfl) (by kernel_rfl) hS.out ?_
              apply Exists.intro
              refine And.intro (by simp [Act.put, go_sem]; rfl) ?_
              refine pl_take (i := 30) 81 rfl rfl rfl (by kernel_rfl) (by kernel_rfl) (by kernel_rfl) (by simp [Act.put]) hS.out ?_
              apply Exists.intro
              refine And.intro (fun w' hS' => ?_) ?_
              · refine wpList_unguard' rfl ?_
                clear hS'
                go_wp2
                first
                  | exact ⟨trivial, rfl⟩
                  | exact rfl
              refine pl_take (i := 31) 82 rfl rfl rfl (by kernel_rfl) (by kernel_rfl) (by kernel_rfl) (by simp [Act.put]) hS.out ?_
              apply Exists.intro
              refine And.intro (fun w' hS' => ?_) ?_
              · refine wpList_unguard' rfl ?_
                clear hS'
                go_wp2
                first
                  | exact ⟨trivial, rfl⟩
                  | exact rfl
              refine pl_skip (i := 32) rfl (by kernel_rfl) (by kernel_rfl) (by kernel_rfl) (by kernel_rfl) hS.out ?_
              apply Exists.intro
              refine And.intro (by simp [Act.put, go_sem]; rfl) ?_
              refine pl_skip (i := 33) rfl (by kernel_rfl) (by kernel_rfl) (by kernel_rfl) (by kernel_rfl) hS.out ?_
              apply Exists.intro
              refine And.intro (by simp [Act.put, go_sem]; rfl) ?_
              refine pl_skip (i := 34) rfl (by kernel_rfl) (by kernel_rfl) (by kernel_rfl) (by kernel_rfl) hS.out ?_
              apply Exists.intro
              refine And.intro (by simp [Act.put, go_sem]; rfl) ?_
              refine pl_skip (i := 35) rfl (by kernel_rfl) (by kernel_rfl) (by kernel_rfl) (by kernel_rfl) hS.out ?_
              apply Exists.intro
              refine And.intro (by simp [Act.put, go_sem]; rfl) ?_
              refine pl_skip (i := 36) rfl (by kernel_rfl) (by kernel_rfl) (by kernel_rfl) (by kernel_rfl) hS.out ?_
              apply Exists.intro
              refine And.intro (by simp [Act.put, go_sem]; rfl) ?_
              refine pl_skip (i := 37) rfl (by kernel_rfl) (by kernel_rfl) (by kernel_rfl) (by kernel_rfl) hS.out ?_
              apply Exists.intro
              refine And.intro (by simp [Act.put, go_sem]; rfl) ?_
              refine pl_skip (i := 38) rfl (by kernel_rfl) (by kernel_rfl) (by kernel_rfl) (by kernel_rfl) hS.out ?_
              apply Exists.intro
              refine And.intro (by simp [Act.put, go_sem]; rfl) ?_
              refine pl_skip (i := 39) rfl (by kernel_rfl) (by kernel_rfl) (by kernel_rfl) (by kernel_rfl) hS.out ?_
              apply Exists.intro
              refine And.intro (by simp [Act.put, go_sem]; rfl) ?_
              refine pl_skip (i := 40) rfl (by kernel_rfl) (by kernel_rfl) (by kernel_rfl) (by kernel_rfl) hS.out ?_
              apply Exists.intro
              refine And.intro (by simp [Act.put, go_sem]; rfl) ?_
              refine pl_skip (i := 41) rfl (by kernel_rfl) (by kernel_rfl) (by kernel_rfl) (by kernel_rfl) hS.out ?_
              apply Exists.intro
              refine And.intro (by simp [Act.put, go_sem]; rfl) ?_
              refine pl_skip (i := 42) rfl (by kernel_rfl) (by kernel_rfl) (by kernel_rfl) (by kernel_rfl) hS.out ?_
              apply Exists.intro
              refine And.intro (by simp [Act.put, go_sem]; rfl) ?_
              refine pl_take (i := 43) 94 rfl rfl rfl (by kernel_rfl) (by kernel_rfl) (by kernel_rfl) (by simp [Act.put]) hS.out ?_
              apply Exists.intro
              refine And.intro (fun w' hS' => ?_) ?_
              · refine wpList_unguard' rfl ?_
                clear hS'
                go_wp2
                first
                  | exact ⟨trivial, rfl⟩
                  | exact rfl
              refine pl_take (i := 44) 95 rfl rfl rfl (by kernel_rfl) (by kernel_rfl) (by kernel_rfl) (by simp [Act.put]) hS.out ?_
              apply Exists.intro
              refine And.intro (fun w' hS' => ?_) ?_
              · clear hS'
                go_wp2
                first
                  | exact ⟨trivial, rfl⟩
                  | exact rfl
              refine pl_done (by kernel_rfl) ?_
              go_wp2
              go_ret
              exact ⟨⟨false, rfl, fun hq => absurd (NQ.out hq) (by
                              rintro ⟨mo, h1, h2⟩
                              have h3 := MO.out mo h1
                              have h4 := ML.out
                              rw [h3] at h4
                              rcases h2 with rfl | ⟨b, r', h5, h6, h7⟩
                              · exact HM0.out h4
                              · rw [HRC.out] at h5
                                cases h5)⟩, BFD.out⟩
            | cons x r =>
              have hfirst := RS3.out.fresh (B4D.out.drew)
              rw [hrc] at hfirst
              obtain ⟨ad, rcc, cs, hv, hpc, hcells⟩ := hfirst.first
              simp only [Value.slice.injEq] at hv
              obtain ⟨rfl, hRN, rfl⟩ := hv
              obtain ⟨K, rfl⟩ : ∃ K, RN = K + 1 := ⟨r.length, hRN⟩
              have RN0 : (0 : Int) < ((K + 1 : Nat) : Int) := by omega
              have RN1 : ((K : Int) + 1 = 0) = False := by simp; omega
              have RN2 : (0 : Int) < (K : Int) + 1 := by omega
              have HRC := Lib.hid hrc
              have hS : Hid ((∀ j u, cs[j]? = some u → w4.drew.drew.cell? (ad.add j) = some u) ∧ Rd w4.drew.drew 1 (.slice a4 m c4) m (bvs (bd.drop n1))) := Lib.hid ⟨hcells, RM.out.fresh (Below.refl _ _).drew⟩
              clear hrc hfirst hRN hcells
              cases x with
              | cut q1 q2 =>
                obtain ⟨_, rfl⟩ := hpc
                go_wp2_with fail
                refine pl_start 45 rfl (fun w' => (∀ j u, [Value.int .i64 (q1 : Int), .int .i64 (q2 : Int), .bool true, .slice none 0 0][j]? = some u → w'.cell? (ad.add j) = some u) ∧ Rd w' 1 (.slice a4 m c4) m (bvs (bd.drop n1))) (by kernel_rfl) ?_
                refine pl_take (i := 0) 51 rfl rfl rfl (by kernel_rfl) (by kernel_rfl) (by kernel_rfl) (by simp [Act.put]) hS.out ?_
                apply Exists.intro
                refine And.intro (fun w' hS' => ?_) ?_
                · clear hS'
                  go_wp2
                  first
                    | exact ⟨trivial, rfl⟩
                    | exact rfl
                refine pl_take (i := 1) 52 rfl rfl rfl (by kernel_rfl) (by kernel_rfl) (by kernel_rfl) (by simp [Act.put]) hS.out ?_
                apply Exists.intro
                refine And.intro (fun w' hS' => ?_) ?_
                · clear hS'
                  go_wp2
                  first
                    | exact ⟨trivial, rfl⟩
                    | exact rfl
                refine pl_take (i := 2) 53 rfl rfl rfl (by kernel_rfl) (by kernel_rfl) (by kernel_rfl) (by simp [Act.put]) hS.out ?_
                apply Exists.intro
                refine And.intro (fun w' hS' => ?_) ?_
                · clear hS'
                  go_wp2
                  first
                    | exact ⟨trivial, rfl⟩
                    | exact rfl
                refine pl_take (i := 3) 54 rfl rfl rfl (by kernel_rfl) (by kernel_rfl) (by kernel_rfl) (by simp [Act.put]) hS.out ?_
                apply Exists.intro
                refine And.intro (fun w' hS' => ?_) ?_
                · clear hS'
                  go_wp2
                  first
                    | exact ⟨trivial, rfl⟩
                    | exact rfl
                refine pl_take (i := 4) 55 rfl rfl rfl (by kernel_rfl) (by kernel_rfl) (by kernel_rfl) (by simp [Act.put]) hS.out ?_
                apply Exists.intro
                refine And.intro (fun w' hS' => ?_) ?_
                · refine wpList_unguard' rfl ?_
                  clear hS'
                  go_wp2
                  first
                    | exact ⟨trivial, rfl⟩
                    | exact rfl
                refine pl_take (i := 5) 56 rfl rfl rfl (by kernel_rfl) (by kernel_rfl) (by kernel_rfl) (by simp [Act.put]) hS.out ?_
                apply Exists.intro
                refine And.intro (fun w' hS' => ?_) ?_
                · refine wpList_unguard' rfl ?_
                  clear hS'
                  go_wp2
                  first
                    | exact ⟨trivial, rfl⟩
                    | exact rfl
                refine pl_take (i := 6) 57 rfl rfl rfl (by kernel_rfl) (by kernel_rfl) (by kernel_rfl) (by simp [Act.put]) hS.out ?_
                apply Exists.intro
                refine And.intro (fun w' hS' => ?_) ?_
                · refine wpList_unguard' rfl ?_
                  clear hS'
                  go_wp2
                  first
                    | exact ⟨trivial, rfl⟩
                    | exact rfl
                refine pl_take (i := 7) 58 rfl rfl rfl (by kernel_rfl) (by kernel_rfl) (by kernel_rfl) (by simp [Act.put]) hS.out ?_
                apply Exists.intro
                refine And.intro (fun w' hS' => ?_) ?_
                · refine wpList_unguard' rfl ?_
                  clear hS'
                  go_wp2
                  first
                    | exact ⟨trivial, rfl⟩
                    | exact rfl
                refine pl_take (i := 8) 59 rfl rfl rfl (by kernel_rfl) (by kernel_rfl) (by kernel_rfl) (by simp [Act.put]) hS.out ?_
                apply Exists.intro
                refine And.intro (fun w' hS' => ?_) ?_
                · refine wpList_unguard' rfl ?_
                  clear hS'
                  go_wp2
                  first
                    | exact ⟨trivial, rfl⟩
                    | exact rfl
                refine pl_take (i := 9) 60 rfl rfl rfl (by kernel_rfl) (by kernel_rfl) (by kernel_rfl) (by simp [Act.put]) hS.out ?_
                apply Exists.intro
                refine And.intro (fun w' hS' => ?_) ?_
                · refine wpList_unguard' rfl ?_
                  clear hS'
                  go_wp2
                  first
                    | exact ⟨trivial, rfl⟩
                    | exact rfl
                refine pl_take (i := 10) 61 rfl rfl rfl (by kernel_rfl) (by kernel_rfl) (by kernel_rfl) (by simp [Act.put]) hS.out ?_
                apply Exists.intro
                refine And.intro (fun w' hS' => ?_) ?_
                · refine wpList_unguard' rfl ?_
                  clear hS'
                  go_wp2
                  first
                    | exact ⟨trivial, rfl⟩
                    | exact rfl
                refine pl_take (i := 11) 62 rfl rfl rfl (by kernel_rfl) (by kernel_rfl) (by kernel_rfl) (by simp [Act.put]) hS.out ?_
                apply Exists.intro
                refine And.intro (fun w' hS' => ?_) ?_
                · refine wpList_unguard' rfl ?_
                  have hc := cell_off (j := 1) (hS'.1 2 _ rfl)
                  clear hS'
                  go_wp2
                  first
                    | exact ⟨trivial, rfl⟩
                    | exact rfl
                refine pl_take (i := 12) 63 rfl rfl rfl (by kernel_rfl) (by kernel_rfl) (by kernel_rfl) (by simp [Act.put]) hS.out ?_
                apply Exists.intro
                refine And.intro (fun w' hS' => ?_) ?_
                · refine wpList_unguard' rfl ?_
                  clear hS'
                  go_wp2
                  first
                    | exact ⟨trivial, rfl⟩
                    | exact rfl
                refine pl_take (i := 13) 64 rfl rfl rfl (by kernel_rfl) (by kernel_rfl) (by kernel_rfl) (by simp [Act.put]) hS.out ?_
                apply Exists.intro
                refine And.intro (fun w' hS' => ?_) ?_
                · refine wpList_unguard' rfl ?_
                  clear hS'
                  go_wp2
                  first
                    | exact ⟨trivial, rfl⟩
                    | exact rfl
                refine pl_skip (i := 14) rfl (by kernel_rfl) (by kernel_rfl) (by kernel_rfl) (by kernel_rfl) hS.out ?_
                apply Exists.intro
                refine And.intro (by simp [Act.put, go_sem]; rfl) ?_
                refine pl_skip (i := 15) rfl (by kernel_rfl) (by kernel_rfl) (by kernel_rfl) (by kernel_rfl) hS.out ?_
                apply Exists.intro
                refine And.intro (by simp [Act.put, go_sem]; rfl) ?_
                refine pl_skip (i := 16) rfl (by kernel_rfl) (by kernel_rfl) (by kernel_rfl) (by kernel_rfl) hS.out ?_
                apply Exists.intro
                refine And.intro (by simp [Act.put, go_sem]; rfl) ?_
                refine pl_skip (i := 17) rfl (by kernel_rfl) (by kernel_rfl) (by kernel_rfl) (by kernel_rfl) hS.out ?_
                apply Exists.intro
                refine And.intro (by simp [Act.put, go_sem]; rfl) ?_
                refine pl_skip (i := 18) rfl (by kernel_rfl) (by kernel_rfl) (by kernel_rfl) (by kernel_rfl) hS.out ?_
                apply Exists.intro
                refine And.intro (by simp [Act.put, go_sem]; rfl) ?_
                refine pl_skip (i := 19) rfl (by kernel_rfl) (by kernel_rfl) (by kernel_rfl) (by kernel_rfl) hS.out ?_
                apply Exists.intro
                refine And.intro (by simp [Act.put, go_sem]; rfl) ?_
                refine pl_take (i := 20) 71 rfl rfl rfl (by kernel_rfl) (by kernel_rfl) (by kernel_rfl) (by simp [Act.put]) hS.out ?_
                apply Exists.intro
                refine And.intro (fun w' hS' => ?_) ?_
                · refine wpList_unguard' rfl ?_
                  clear hS'
                  go_wp2
                  first
                    | exact ⟨trivial, rfl⟩
                    | exact rfl
                refine pl_take (i := 21) 72 rfl rfl rfl (by kernel_rfl) (by kernel_rfl) (by kernel_rfl) (by simp [Act.put]) hS.out ?_
                apply Exists.intro
                refine And.intro (fun w' hS' => ?_) ?_
                · refine wpList_unguard' rfl ?_
                  clear hS'
                  go_wp2
                  first
                    | exact ⟨trivial, rfl⟩
                    | exact rfl
                refine pl_skip (i := 22) rfl (by kernel_rfl) (by kernel_rfl) (by kernel_rfl) (by kernel_rfl) hS.out ?_
                apply Exists.intro
                refine And.intro (by simp [Act.put, go_sem]; rfl) ?_
                refine pl_skip (i := 23) rfl (by kernel_rfl) (by kernel_rfl) (by kernel_rfl) (by kernel_rfl) hS.out ?_
                apply Exists.intro
                refine And.intro (by simp [Act.put, go_sem]; rfl) ?_
                refine pl_skip (i := 24) rfl (by kernel_rfl) (by kernel_rfl) (by kernel_rfl) (by kernel_rfl) hS.out ?_
                apply Exists.intro
                refine And.intro (by simp [Act.put, go_sem]; rfl) ?_
                refine pl_skip (i := 25) rfl (by kernel_rfl) (by kernel_rfl) (by kernel_rfl) (by kernel_rfl) hS.out ?_
                apply Exists.intro
                refine And.intro (by simp [Act.put, go_sem]; rfl) ?_
                refine pl_skip (i := 26) rfl (by kernel_rfl) (by kernel_rfl) (by kernel_rfl) (by kernel_rfl) hS.out ?_
                apply Exists.intro
                refine And.intro (by simp [Act.put, go_sem]; rfl) ?_
                refine pl_skip (i := 27) rfl (by kernel_rfl) (by kernel_rfl) (by kernel_rfl) (by kernel_rfl) hS.out ?_
                apply Exists.intro
                refine And.intro (by simp [Act.put, go_sem]; rfl) ?_
                refine pl_skip (i := 28) rfl (by kernel_rfl) (by kernel_rfl) (by kernel_rfl) (by kernel_rfl) hS.out ?_
                apply Exists.intro
                refine And.intro (by simp [Act.put, go_sem]; rfl) ?_
                refine pl_skip (i := 29) rfl (by kernel_rfl) (by kernel_rfl) (by kernel_rfl) (by kernel_rfl) hS.out ?_
                apply Exists.intro
                refine And.intro (by simp [Act.put, go_sem]; rfl) ?_
                refine pl_take (i := 30) 81 rfl rfl rfl (by kernel_rfl) (by kernel_rfl) (by kernel_rfl) (by simp [Act.put]) hS.out ?_
                apply Exists.intro
                refine And.intro (fun w' hS' => ?_) ?_
                · refine wpList_unguard' rfl ?_
                  clear hS'
                  go_wp2
                  first
                    | exact ⟨trivial, rfl⟩
                    | exact rfl
                refine pl_take (i := 31) 82 rfl rfl rfl (by kernel_rfl) (by kernel_rfl) (by kernel_rfl) (by simp [Act.put]) hS.out ?_
                apply Exists.intro
                refine And.intro (fun w' hS' => ?_) ?_
                · refine wpList_unguard' rfl ?_
                  clear hS'
                  go_wp2
                  first
                    | exact ⟨trivial, rfl⟩
                    | exact rfl
                refine pl_skip (i := 32) rfl (by kernel_rfl) (by kernel_rfl) (by kernel_rfl) (by kernel_rfl) hS.out ?_
                apply Exists.intro
                refine And.intro (by simp [Act.put, go_sem]; rfl) ?_
                refine pl_skip (i := 33) rfl (by kernel_rfl) (by kernel_rfl) (by kernel_rfl) (by kernel_rfl) hS.out ?_
                apply Exists.intro
                refine And.intro (by simp [Act.put, go_sem]; rfl) ?_
                refine pl_skip (i := 34) rfl (by kernel_rfl) (by kernel_rfl) (by kernel_rfl) (by kernel_rfl) hS.out ?_
                apply Exists.intro
                refine And.intro (by simp [Act.put, go_sem]; rfl) ?_
                refine pl_skip (i := 35) rfl (by kernel_rfl) (by kernel_rfl) (by kernel_rfl) (by kernel_rfl) hS.out ?_
                apply Exists.intro
                refine And.intro (by simp [Act.put, go_sem]; rfl) ?_
                refine pl_skip (i := 36) rfl (by kernel_rfl) (by kernel_rfl) (by kernel_rfl) (by kernel_rfl) hS.out ?_
                apply Exists.intro
                refine And.intro (by simp [Act.put, go_sem]; rfl) ?_
                refine pl_skip (i := 37) rfl (by kernel_rfl) (by kernel_rfl) (by kernel_rfl) (by kernel_rfl) hS.out ?_
                apply Exists.intro
                refine And.intro (by simp [Act.put, go_sem]; rfl) ?_
                refine pl_skip (i := 38) rfl (by kernel_rfl) (by kernel_rfl) (by kernel_rfl) (by kernel_rfl) hS.out ?_
                apply Exists.intro
                refine And.intro (by simp [Act.put, go_sem]; rfl) ?_
                refine pl_skip (i := 39) rfl (by kernel_rfl) (by kernel_rfl) (by kernel_rfl) (by kernel_rfl) hS.out ?_
                apply Exists.intro
                refine And.intro (by simp [Act.put, go_sem]; rfl) ?_
                refine pl_skip (i := 40) rfl (by kernel_rfl) (by kernel_rfl) (by kernel_rfl) (by kernel_rfl) hS.out ?_
                apply Exists.intro
                refine And.intro (by simp [Act.put, go_sem]; rfl) ?_
                refine pl_skip (i := 41) rfl (by kernel_rfl) (by kernel_rfl) (by kernel_rfl) (by kernel_rfl) hS.out ?_
                apply Exists.intro
                refine And.intro (by simp [Act.put, go_sem]; rfl) ?_
                refine pl_skip (i := 42) rfl (by kernel_rfl) (by kernel_rfl) (by kernel_rfl) (by kernel_rfl) hS.out ?_
                apply Exists.intro
                refine And.intro (by simp [Act.put, go_sem]; rfl) ?_
                refine pl_take (i := 43) 94 rfl rfl rfl (by kernel_rfl) (by kernel_rfl) (by kernel_rfl) (by simp [Act.put]) hS.out ?_
                apply Exists.intro
                refine And.intro (fun w' hS' => ?_) ?_
                · refine wpList_unguard' rfl ?_
                  clear hS'
                  go_wp2
                  first
                    | exact ⟨trivial, rfl⟩
                    | exact rfl
                refine pl_take (i := 44) 95 rfl rfl rfl (by kernel_rfl) (by kernel_rfl) (by kernel_rfl) (by simp [Act.put]) hS.out ?_
                apply Exists.intro
                refine And.intro (fun w' hS' => ?_) ?_
                · clear hS'
                  go_wp2
                  first
                    | exact ⟨trivial, rfl⟩
                    | exact rfl
                refine pl_done (by kernel_rfl) ?_
                go_wp2
                go_ret
                exact ⟨⟨false, rfl, fun hq => absurd (NQ.out hq) (by
                                rintro ⟨mo, h1, h2⟩
                                have h3 := MO.out mo h1
                                have h4 := ML.out
                                rw [h3] at h4
                                rcases h2 with rfl | ⟨b, r', h5, h6, h7⟩
                                · exact HM0.out h4
                                · rw [HRC.out] at h5
                                  cases h5)⟩, BFD.out⟩
              | put q b =>
                obtain ⟨hq16, vb, rfl, hrb⟩ := hpc
                obtain ⟨ab, cb, rfl⟩ := hrb.slice
                obtain ⟨mb, hmb⟩ : ∃ mb, mb = b.length := ⟨_, rfl⟩
                rw [← hmb] at hS
                have HMB := Lib.hid hmb
                have RB := Lib.hid hrb
                have bmb : (mb : Int) ≤ 9223372036854775807 := by have := rd_small hrb.1; omega
                clear hrb hmb
                by_cases hqi : q = i
                · have HQI := Lib.hid hqi
                  clear hqi
                  by_cases hlong : mb < m
                  · have g1 : (mb : Int) < (m : Int) := by omega
                    have g2 : (decide (mb < m)) = true := decide_eq_true hlong
                    have HLONG := Lib.hid hlong
                    clear hlong
                    go_wp2_with fail
                    refine pl_start 45 rfl (fun w' => (∀ j u, [Value.int .i64 (q : Int), .int .i64 0, .bool false, .slice ab mb cb][j]? = some u → w'.cell? (ad.add j) = some u) ∧ Rd w' 1 (.slice a4 m c4) m (bvs (bd.drop n1))) (by kernel_rfl) ?_
                    refine pl_take (i := 0) 51 rfl rfl rfl (by kernel_rfl) (by kernel_rfl) (by kernel_rfl) (by simp [Act.put]) hS.out ?_
                    apply Exists.intro
                    refine And.intro (fun w' hS' => ?_) ?_
                    · clear hS'
                      go_wp2
                      first
                        | exact ⟨trivial, rfl⟩
                        | exact rfl
                    refine pl_take (i := 1) 52 rfl rfl rfl (by kernel_rfl) (by kernel_rfl) (by kernel_rfl) (by simp [Act.put]) hS.out ?_
                    apply Exists.intro
                    refine And.intro (fun w' hS' => ?_) ?_
                    · clear hS'
                      go_wp2
                      first
                        | exact ⟨trivial, rfl⟩
                        | exact rfl
                    refine pl_take (i := 2) 53 rfl rfl rfl (by kernel_rfl) (by kernel_rfl) (by kernel_rfl) (by simp [Act.put]) hS.out ?_
                    apply Exists.intro
                    refine And.intro (fun w' hS' => ?_) ?_
                    · clear hS'
                      go_wp2
                      first
                        | exact ⟨trivial, rfl⟩
                        | exact rfl
                    refine pl_take (i := 3) 54 rfl rfl rfl (by kernel_rfl) (by kernel_rfl) (by kernel_rfl) (by simp [Act.put]) hS.out ?_
                    apply Exists.intro
                    refine And.intro (fun w' hS' => ?_) ?_
                    · clear hS'
                      go_wp2
                      first
                        | exact ⟨trivial, rfl⟩
                        | exact rfl
                    refine pl_take (i := 4) 55 rfl rfl rfl (by kernel_rfl) (by kernel_rfl) (by kernel_rfl) (by simp [Act.put]) hS.out ?_
                    apply Exists.intro
                    refine And.intro (fun w' hS' => ?_) ?_
                    · refine wpList_unguard' rfl ?_
                      clear hS'
                      go_wp2
                      first
                        | exact ⟨trivial, rfl⟩
                        | exact rfl
                    refine pl_take (i := 5) 56 rfl rfl rfl (by kernel_rfl) (by kernel_rfl) (by kernel_rfl) (by simp [Act.put]) hS.out ?_
                    apply Exists.intro
                    refine And.intro (fun w' hS' => ?_) ?_
                    · refine wpList_unguard' rfl ?_
                      clear hS'
                      go_wp2
                      first
                        | exact ⟨trivial, rfl⟩
                        | exact rfl
                    refine pl_take (i := 6) 57 rfl rfl rfl (by kernel_rfl) (by kernel_rfl) (by kernel_rfl) (by simp [Act.put]) hS.out ?_
                    apply Exists.intro
                    refine And.intro (fun w' hS' => ?_) ?_
                    · refine wpList_unguard' rfl ?_
                      clear hS'
                      go_wp2
                      first
                        | exact ⟨trivial, rfl⟩
                        | exact rfl
                    refine pl_take (i := 7) 58 rfl rfl rfl (by kernel_rfl) (by kernel_rfl) (by kernel_rfl) (by simp [Act.put]) hS.out ?_
                    apply Exists.intro
                    refine And.intro (fun w' hS' => ?_) ?_
                    · refine wpList_unguard' rfl ?_
                      clear hS'
                      go_wp2
                      first
                        | exact ⟨trivial, rfl⟩
                        | exact rfl
                    refine pl_take (i := 8) 59 rfl rfl rfl (by kernel_rfl) (by kernel_rfl) (by kernel_rfl) (by simp [Act.put]) hS.out ?_
                    apply Exists.intro
                    refine And.intro (fun w' hS' => ?_) ?_
                    · refine wpList_unguard' rfl ?_
                      clear hS'
                      go_wp2
                      first
                        | exact ⟨trivial, rfl⟩
                        | exact rfl
                    refine pl_take (i := 9) 60 rfl rfl rfl (by kernel_rfl) (by kernel_rfl) (by kernel_rfl) (by simp [Act.put]) hS.out ?_
                    apply Exists.intro
                    refine And.intro (fun w' hS' => ?_) ?_
                    · refine wpList_unguard' rfl ?_
                      clear hS'
                      go_wp2
                      first
                        | exact ⟨trivial, rfl⟩
                        | exact rfl
                    refine pl_take (i := 10) 61 rfl rfl rfl (by kernel_rfl) (by kernel_rfl) (by kernel_rfl) (by simp [Act.put]) hS.out ?_
                    apply Exists.intro
                    refine And.intro (fun w' hS' => ?_) ?_
                    · refine wpList_unguard' rfl ?_
                      clear hS'
                      go_wp2
                      first
                        | exact ⟨trivial, rfl⟩
                        | exact rfl
                    refine pl_take (i := 11) 62 rfl rfl rfl (by kernel_rfl) (by kernel_rfl) (by kernel_rfl) (by simp [Act.put]) hS.out ?_
                    apply Exists.intro
                    refine And.intro (fun w' hS' => ?_) ?_
                    · refine wpList_unguard' rfl ?_
                      have hc := cell_off (j := 1) (hS'.1 2 _ rfl)
                      clear hS'
                      go_wp2
                      first
                        | exact ⟨trivial, rfl⟩
                        | exact rfl
                    refine pl_take (i := 12) 63 rfl rfl rfl (by kernel_rfl) (by kernel_rfl) (by kernel_rfl) (by simp [Act.put]) hS.out ?_
                    apply Exists.intro
                    refine And.intro (fun w' hS' => ?_) ?_
                    · refine wpList_unguard' rfl ?_
                      clear hS'
                      go_wp2
                      first
                        | exact ⟨trivial, rfl⟩
                        | exact rfl
                    refine pl_take (i := 13) 64 rfl rfl rfl (by kernel_rfl) (by kernel_rfl) (by kernel_rfl) (by simp [Act.put]) hS.out ?_
                    apply Exists.intro
                    refine And.intro (fun w' hS' => ?_) ?_
                    · refine wpList_unguard' rfl ?_
                      clear hS'
                      go_wp2
                      first
                        | exact ⟨trivial, rfl⟩
                        | exact rfl
                    refine pl_take (i := 14) 65 rfl rfl rfl (by kernel_rfl) (by kernel_rfl) (by kernel_rfl) (by simp [Act.put]) hS.out ?_
                    apply Exists.intro
                    refine And.intro (fun w' hS' => ?_) ?_
                    · refine wpList_unguard' rfl ?_
                      clear hS'
                      go_wp2
                      first
                        | exact ⟨trivial, rfl⟩
                        | exact rfl
                    refine pl_take (i := 15) 66 rfl rfl rfl (by kernel_rfl) (by kernel_rfl) (by kernel_rfl) (by simp [Act.put]) hS.out ?_
                    apply Exists.intro
                    refine And.intro (fun w' hS' => ?_) ?_
                    · refine wpList_unguard' rfl ?_
                      clear hS'
                      go_wp2
                      first
                        | exact ⟨trivial, rfl⟩
                        | exact rfl
                    refine pl_take (i := 16) 67 rfl rfl rfl (by kernel_rfl) (by kernel_rfl) (by kernel_rfl) (by simp [Act.put]) hS.out ?_
                    apply Exists.intro
                    refine And.intro (fun w' hS' => ?_) ?_
                    · refine wpList_unguard' rfl ?_
                      clear hS'
                      go_wp2
                      first
                        | exact ⟨trivial, rfl⟩
                        | exact rfl
                    refine pl_take (i := 17) 68 rfl rfl rfl (by kernel_rfl) (by kernel_rfl) (by kernel_rfl) (by simp [Act.put]) hS.out ?_
                    apply Exists.intro
                    refine And.intro (fun w' hS' => ?_) ?_
                    · refine wpList_unguard' rfl ?_
                      have hc : w'.cell? ad = some _ := hS'.1 0 _ rfl
                      clear hS'
                      go_wp2
                      first
                        | exact ⟨trivial, rfl⟩
                        | exact rfl
                    refine pl_take (i := 18) 69 rfl rfl rfl (by kernel_rfl) (by kernel_rfl) (by kernel_rfl) (by simp [Act.put]) hS.out ?_
                    apply Exists.intro
                    refine And.intro (fun w' hS' => ?_) ?_
                    · refine wpList_unguard' rfl ?_
                      clear hS'
                      go_wp2
                      first
                        | exact ⟨trivial, rfl⟩
                        | exact rfl
                    refine pl_take (i := 19) 70 rfl rfl rfl (by kernel_rfl) (by kernel_rfl) (by kernel_rfl) (by simp [Act.put]) hS.out ?_
                    apply Exists.intro
                    refine And.intro (fun w' hS' => ?_) ?_
                    · refine wpList_unguard' rfl ?_
                      refine wpList_bin rfl .neq 3 3 (.tmp 68) (.tmp 69) rfl (.bool false) (int_guard _ _ _ _ _ _) (int_ne' _ _ _ _ (by have := HQI.out; simp; omega)) ?_
                      clear hS'
                      go_wp2
                      first
                        | exact ⟨trivial, rfl⟩
                        | exact rfl
                    refine pl_take (i := 20) 71 rfl rfl rfl (by kernel_rfl) (by kernel_rfl) (by kernel_rfl) (by simp [Act.put]) hS.out ?_
                    apply Exists.intro
                    refine And.intro (fun w' hS' => ?_) ?_
                    · refine wpList_unguard' rfl ?_
                      clear hS'
                      go_wp2
                      first
                        | exact ⟨trivial, rfl⟩
                        | exact rfl
                    refine pl_take (i := 21) 72 rfl rfl rfl (by kernel_rfl) (by kernel_rfl) (by kernel_rfl) (by simp [Act.put]) hS.out ?_
                    apply Exists.intro
                    refine And.intro (fun w' hS' => ?_) ?_
                    · refine wpList_unguard' rfl ?_
                      clear hS'
                      go_wp2
                      first
                        | exact ⟨trivial, rfl⟩
                        | exact rfl
                    refine pl_take (i := 22) 73 rfl rfl rfl (by kernel_rfl) (by kernel_rfl) (by kernel_rfl) (by simp [Act.put]) hS.out ?_
                    apply Exists.intro
                    refine And.intro (fun w' hS' => ?_) ?_
                    · refine wpList_unguard' rfl ?_
                      clear hS'
                      go_wp2
                      first
                        | exact ⟨trivial, rfl⟩
                        | exact rfl
                    refine pl_take (i := 23) 74 rfl rfl rfl (by kernel_rfl) (by kernel_rfl) (by kernel_rfl) (by simp [Act.put]) hS.out ?_
                    apply Exists.intro
                    refine And.intro (fun w' hS' => ?_) ?_
                    · refine wpList_unguard' rfl ?_
                      clear hS'
                      go_wp2
                      first
                        | exact ⟨trivial, rfl⟩
                        | exact rfl
                    refine pl_take (i := 24) 75 rfl rfl rfl (by kernel_rfl) (by kernel_rfl) (by kernel_rfl) (by simp [Act.put]) hS.out ?_
                    apply Exists.intro
                    refine And.intro (fun w' hS' => ?_) ?_
                    · refine wpList_unguard' rfl ?_
                      clear hS'
                      go_wp2
                      first
                        | exact ⟨trivial, rfl⟩
                        | exact rfl
                    refine pl_take (i := 25) 76 rfl rfl rfl (by kernel_rfl) (by kernel_rfl) (by kernel_rfl) (by simp [Act.put]) hS.out ?_
                    apply Exists.intro
                    refine And.intro (fun w' hS' => ?_) ?_
                    · refine wpList_unguard' rfl ?_
                      clear hS'
                      go_wp2
                      first
                        | exact ⟨trivial, rfl⟩
                        | exact rfl
                    refine pl_take (i := 26) 77 rfl rfl rfl (by kernel_rfl) (by kernel_rfl) (by kernel_rfl) (by simp [Act.put]) hS.out ?_
                    apply Exists.intro
                    refine And.intro (fun w' hS' => ?_) ?_
                    · refine wpList_unguard' rfl ?_
                      clear hS'
                      go_wp2
                      first
                        | exact ⟨trivial, rfl⟩
                        | exact rfl
                    refine pl_take (i := 27) 78 rfl rfl rfl (by kernel_rfl) (by kernel_rfl) (by kernel_rfl) (by simp [Act.put]) hS.out ?_
                    apply Exists.intro
                    refine And.intro (fun w' hS' => ?_) ?_
                    · refine wpList_unguard' rfl ?_
                      have hc := cell_off (j := 2) (hS'.1 3 _ rfl)
                      clear hS'
                      go_wp2
                      first
                        | exact ⟨trivial, rfl⟩
                        | exact rfl
                    refine pl_take (i := 28) 79 rfl rfl rfl (by kernel_rfl) (by kernel_rfl) (by kernel_rfl) (by simp [Act.put]) hS.out ?_
                    apply Exists.intro
                    refine And.intro (fun w' hS' => ?_) ?_
                    · refine wpList_unguard' rfl ?_
                      clear hS'
                      go_wp2
                      first
                        | exact ⟨trivial, rfl⟩
                        | exact rfl
                    refine pl_take (i := 29) 80 rfl rfl rfl (by kernel_rfl) (by kernel_rfl) (by kernel_rfl) (by simp [Act.put]) hS.out ?_
                    apply Exists.intro
                    refine And.intro (fun w' hS' => ?_) ?_
                    · refine wpList_unguard' rfl ?_
                      clear hS'
                      go_wp2
                      first
                        | exact ⟨trivial, rfl⟩
                        | exact rfl
                    refine pl_take (i := 30) 81 rfl rfl rfl (by kernel_rfl) (by kernel_rfl) (by kernel_rfl) (by simp [Act.put]) hS.out ?_
                    apply Exists.intro
                    refine And.intro (fun w' hS' => ?_) ?_
                    · refine wpList_unguard' rfl ?_
                      clear hS'
                      go_wp2
                      first
                        | exact ⟨trivial, rfl⟩
                        | exact rfl
                    refine pl_take (i := 31) 82 rfl rfl rfl (by kernel_rfl) (by kernel_rfl) (by kernel_rfl) (by simp [Act.put]) hS.out ?_
                    apply Exists.intro
                    refine And.intro (fun w' hS' => ?_) ?_
                    · refine wpList_unguard' rfl ?_
                      clear hS'
                      go_wp2
                      first
                        | exact ⟨trivial, rfl⟩
                        | exact rfl
                    refine pl_skip (i := 32) rfl (by kernel_rfl) (by kernel_rfl) (by kernel_rfl) (by kernel_rfl) hS.out ?_
                    apply Exists.intro
                    refine And.intro (by simp [Act.put, go_sem]; rfl) ?_
                    refine pl_skip (i := 33) rfl (by kernel_rfl) (by kernel_rfl) (by kernel_rfl) (by kernel_rfl) hS.out ?_
                    apply Exists.intro
                    refine And.intro (by simp [Act.put, go_sem]; rfl) ?_
                    refine pl_skip (i := 34) rfl (by kernel_rfl) (by kernel_rfl) (by kernel_rfl) (by kernel_rfl) hS.out ?_
                    apply Exists.intro
                    refine And.intro (by simp [Act.put, go_sem]; rfl) ?_
                    refine pl_skip (i := 35) rfl (by kernel_rfl) (by kernel_rfl) (by kernel_rfl) (by kernel_rfl) hS.out ?_
                    apply Exists.intro
                    refine And.intro (by simp [Act.put, go_sem]; rfl) ?_
                    refine pl_skip (i := 36) rfl (by kernel_rfl) (by kernel_rfl) (by kernel_rfl) (by kernel_rfl) hS.out ?_
                    apply Exists.intro
                    refine And.intro (by simp [Act.put, go_sem]; rfl) ?_
                    refine pl_skip (i := 37) rfl (by kernel_rfl) (by kernel_rfl) (by kernel_rfl) (by kernel_rfl) hS.out ?_
                    apply Exists.intro
                    refine And.intro (by simp [Act.put, go_sem]; rfl) ?_
                    refine pl_skip (i := 38) rfl (by kernel_rfl) (by kernel_rfl) (by kernel_rfl) (by kernel_rfl) hS.out ?_
                    apply Exists.intro
                    refine And.intro (by simp [Act.put, go_sem]; rfl) ?_
                    refine pl_skip (i := 39) rfl (by kernel_rfl) (by kernel_rfl) (by kernel_rfl) (by kernel_rfl) hS.out ?_
                    apply Exists.intro
                    refine And.intro (by simp [Act.put, go_sem]; rfl) ?_
                    refine pl_skip (i := 40) rfl (by kernel_rfl) (by kernel_rfl) (by kernel_rfl) (by kernel_rfl) hS.out ?_
                    apply Exists.intro
                    refine And.intro (by simp [Act.put, go_sem]; rfl) ?_
                    refine pl_skip (i := 41) rfl (by kernel_rfl) (by kernel_rfl) (by kernel_rfl) (by kernel_rfl) hS.out ?_
                    apply Exists.intro
                    refine And.intro (by simp [Act.put, go_sem]; rfl) ?_
                    refine pl_skip (i := 42) rfl (by kernel_rfl) (by kernel_rfl) (by kernel_rfl) (by kernel_rfl) hS.out ?_
                    apply Exists.intro
                    refine And.intro (by simp [Act.put, go_sem]; rfl) ?_
                    refine pl_take (i := 43) 94 rfl rfl rfl (by kernel_rfl) (by kernel_rfl) (by kernel_rfl) (by simp [Act.put]) hS.out ?_
                    apply Exists.intro
                    refine And.intro (fun w' hS' => ?_) ?_
                    · refine wpList_unguard' rfl ?_
                      clear hS'
                      go_wp2
                      first
                        | exact ⟨trivial, rfl⟩
                        | exact rfl
                    refine pl_take (i := 44) 95 rfl rfl rfl (by kernel_rfl) (by kernel_rfl) (by kernel_rfl) (by simp [Act.put]) hS.out ?_
                    apply Exists.intro
                    refine And.intro (fun w' hS' => ?_) ?_
                    · clear hS'
                      go_wp2
                      first
                        | exact ⟨trivial, rfl⟩
                        | exact rfl
                    refine pl_done (by kernel_rfl) ?_
                    go_wp2
                    go_ret
                    exact ⟨⟨false, rfl, fun hq => absurd (NQ.out hq) (by
                                    rintro ⟨mo, h1, h2⟩
                                    have h3 := MO.out mo h1
                                    have h4 := ML.out
                                    rw [h3] at h4
                                    rcases h2 with rfl | ⟨b, r', h5, h6, h7⟩
                                    · exact HM0.out h4
                                    · rw [HRC.out] at h5
                                      simp only [List.cons.injEq, St.put.injEq] at h5
                                      obtain ⟨⟨_, rfl⟩, _⟩ := h5
                                      have h8 := HLONG.out
                                      have h9 := HMB.out
                                      omega)⟩, BFD.out⟩
                  · have g1 : ¬ (mb : Int) < (m : Int) := by omega
                    have g2 : (decide (mb < m)) = false := decide_eq_false hlong
                    have MLE : Hid (m ≤ mb) := Lib.hid (by omega)
                    have bmc : (m : Int) ≤ (cb : Int) := by
                      have h1 := MLE.out
                      have h2 := HMB.out
                      rcases RB.out.1.2 with ⟨he, _⟩ | ⟨_, _, he, hnc, _⟩
                      · simp only [Value.slice.injEq] at he; omega
                      · simp only [Value.slice.injEq] at he; omega
                    have RBK : Hid (∀ w', Rd w' 1 (.slice ab mb cb) mb (bvs b) → (convert 29 9 (.slice ab m cb)).run Try.prog w' = .ok (.string ⟨(b.take m).toArray⟩) w') := Lib.hid (fun w' h => by
                      have hl : (b.take m).length = m := by rw [List.length_take]; have h1 := MLE.out; have h2 := HMB.out; omega
                      exact Rd.conv (P := Try.prog) (l := b.take m) (by rw [hl]; exact Rd.pre h MLE.out) 29 9 5 Try.underlying29 Try.underlying5 Try.underlying9)
                    clear hlong
                    by_cases hst : bd.drop n1 = b.take m
                    · have HEQ2 : Hid ((bd.drop n1 != b.take m) = false) := Lib.hid (by simpa using hst)
                      have HST := Lib.hid hst
                      have hS2 : Hid ((∀ j u, [Value.int .i64 (q : Int), .int .i64 0, .bool false, .slice ab mb cb][j]? = some u → w4.drew.drew.cell? (ad.add j) = some u) ∧ Rd w4.drew.drew 1 (.slice a4 m c4) m (bvs (bd.drop n1)) ∧ Rd w4.drew.drew 1 (.slice ab mb cb) mb (bvs b)) := Lib.hid ⟨hS.out.1, hS.out.2, by have := RB.out.1; rw [← HMB.out] at this; exact this⟩
                      clear hst hS
                      have hS := hS2
                      have HEQ := HEQ2
                      clear hS2 HEQ2
                      go_wp2_with fail
                      refine pl_start 45 rfl (fun w' => (∀ j u, [Value.int .i64 (q : Int), .int .i64 0, .bool false, .slice ab mb cb][j]? = some u → w'.cell? (ad.add j) = some u) ∧ Rd w' 1 (.slice a4 m c4) m (bvs (bd.drop n1)) ∧ Rd w' 1 (.slice ab mb cb) mb (bvs b)) (by kernel_rfl) ?_
                      refine pl_take (i := 0) 51 rfl rfl rfl (by kernel_rfl) (by kernel_rfl) (by kernel_rfl) (by simp [Act.put]) hS.out ?_
                      apply Exists.intro
                      refine And.intro (fun w' hS' => ?_) ?_
                      · clear hS'
                        go_wp2
                        first
                          | exact ⟨trivial, rfl⟩
                          | exact rfl
                      refine pl_take (i := 1) 52 rfl rfl rfl (by kernel_rfl) (by kernel_rfl) (by kernel_rfl) (by simp [Act.put]) hS.out ?_
                      apply Exists.intro
                      refine And.intro (fun w' hS' => ?_) ?_
                      · clear hS'
                        go_wp2
                        first
                          | exact ⟨trivial, rfl⟩
                          | exact rfl
                      refine pl_take (i := 2) 53 rfl rfl rfl (by kernel_rfl) (by kernel_rfl) (by kernel_rfl) (by simp [Act.put]) hS.out ?_
                      apply Exists.intro
                      refine And.intro (fun w' hS' => ?_) ?_
                      · clear hS'
                        go_wp2
                        first
                          | exact ⟨trivial, rfl⟩
                          | exact rfl
                      refine pl_take (i := 3) 54 rfl rfl rfl (by kernel_rfl) (by kernel_rfl) (by kernel_rfl) (by simp [Act.put]) hS.out ?_
                      apply Exists.intro
                      refine And.intro (fun w' hS' => ?_) ?_
                      · clear hS'
                        go_wp2
                        first
                          | exact ⟨trivial, rfl⟩
                          | exact rfl
                      refine pl_take (i := 4) 55 rfl rfl rfl (by kernel_rfl) (by kernel_rfl) (by kernel_rfl) (by simp [Act.put]) hS.out ?_
                      apply Exists.intro
                      refine And.intro (fun w' hS' => ?_) ?_
                      · refine wpList_unguard' rfl ?_
                        clear hS'
                        go_wp2
                        first
                          | exact ⟨trivial, rfl⟩
                          | exact rfl
                      refine pl_take (i := 5) 56 rfl rfl rfl (by kernel_rfl) (by kernel_rfl) (by kernel_rfl) (by simp [Act.put]) hS.out ?_
                      apply Exists.intro
                      refine And.intro (fun w' hS' => ?_) ?_
                      · refine wpList_unguard' rfl ?_
                        clear hS'
                        go_wp2
                        first
                          | exact ⟨trivial, rfl⟩
                          | exact rfl
                      refine pl_take (i := 6) 57 rfl rfl rfl (by kernel_rfl) (by kernel_rfl) (by kernel_rfl) (by simp [Act.put]) hS.out ?_
                      apply Exists.intro
                      refine And.intro (fun w' hS' => ?_) ?_
                      · refine wpList_unguard' rfl ?_
                        clear hS'
                        go_wp2
                        first
                          | exact ⟨trivial, rfl⟩
                          | exact rfl
                      refine pl_take (i := 7) 58 rfl rfl rfl (by kernel_rfl) (by kernel_rfl) (by kernel_rfl) (by simp [Act.put]) hS.out ?_
                      apply Exists.intro
                      refine And.intro (fun w' hS' => ?_) ?_
                      · refine wpList_unguard' rfl ?_
                        clear hS'
                        go_wp2
                        first
                          | exact ⟨trivial, rfl⟩
                          | exact rfl
                      refine pl_take (i := 8) 59 rfl rfl rfl (by kernel_rfl) (by kernel_rfl) (by kernel_rfl) (by simp [Act.put]) hS.out ?_
                      apply Exists.intro
                      refine And.intro (fun w' hS' => ?_) ?_
                      · refine wpList_unguard' rfl ?_
                        clear hS'
                        go_wp2
                        first
                          | exact ⟨trivial, rfl⟩
                          | exact rfl
                      refine pl_take (i := 9) 60 rfl rfl rfl (by kernel_rfl) (by kernel_rfl) (by kernel_rfl) (by simp [Act.put]) hS.out ?_
                      apply Exists.intro
                      refine And.intro (fun w' hS' => ?_) ?_
                      · refine wpList_unguard' rfl ?_
                        clear hS'
                        go_wp2
                        first
                          | exact ⟨trivial, rfl⟩
                          | exact rfl
                      refine pl_take (i := 10) 61 rfl rfl rfl (by kernel_rfl) (by kernel_rfl) (by kernel_rfl) (by simp [Act.put]) hS.out ?_
                      apply Exists.intro
                      refine And.intro (fun w' hS' => ?_) ?_
                      · refine wpList_unguard' rfl ?_
                        clear hS'
                        go_wp2
                        first
                          | exact ⟨trivial, rfl⟩
                          | exact rfl
                      refine pl_take (i := 11) 62 rfl rfl rfl (by kernel_rfl) (by kernel_rfl) (by kernel_rfl) (by simp [Act.put]) hS.out ?_
                      apply Exists.intro
                      refine And.intro (fun w' hS' => ?_) ?_
                      · refine wpList_unguard' rfl ?_
                        have hc := cell_off (j := 1) (hS'.1 2 _ rfl)
                        clear hS'
                        go_wp2
                        first
                          | exact ⟨trivial, rfl⟩
                          | exact rfl
                      refine pl_take (i := 12) 63 rfl rfl rfl (by kernel_rfl) (by kernel_rfl) (by kernel_rfl) (by simp [Act.put]) hS.out ?_
                      apply Exists.intro
                      refine And.intro (fun w' hS' => ?_) ?_
                      · refine wpList_unguard' rfl ?_
                        clear hS'
                        go_wp2
                        first
                          | exact ⟨trivial, rfl⟩
                          | exact rfl
                      refine pl_take (i := 13) 64 rfl rfl rfl (by kernel_rfl) (by kernel_rfl) (by kernel_rfl) (by simp [Act.put]) hS.out ?_
                      apply Exists.intro
                      refine And.intro (fun w' hS' => ?_) ?_
                      · refine wpList_unguard' rfl ?_
                        clear hS'
                        go_wp2
                        first
                          | exact ⟨trivial, rfl⟩
                          | exact rfl
                      refine pl_take (i := 14) 65 rfl rfl rfl (by kernel_rfl) (by kernel_rfl) (by kernel_rfl) (by simp [Act.put]) hS.out ?_
                      apply Exists.intro
                      refine And.intro (fun w' hS' => ?_) ?_
                      · refine wpList_unguard' rfl ?_
                        clear hS'
                        go_wp2
                        first
                          | exact ⟨trivial, rfl⟩
                          | exact rfl
                      refine pl_take (i := 15) 66 rfl rfl rfl (by kernel_rfl) (by kernel_rfl) (by kernel_rfl) (by simp [Act.put]) hS.out ?_
                      apply Exists.intro
                      refine And.intro (fun w' hS' => ?_) ?_
                      · refine wpList_unguard' rfl ?_
                        clear hS'
                        go_wp2
                        first
                          | exact ⟨trivial, rfl⟩
                          | exact rfl
                      refine pl_take (i := 16) 67 rfl rfl rfl (by kernel_rfl) (by kernel_rfl) (by kernel_rfl) (by simp [Act.put]) hS.out ?_
                      apply Exists.intro
                      refine And.intro (fun w' hS' => ?_) ?_
                      · refine wpList_unguard' rfl ?_
                        clear hS'
                        go_wp2
                        first
                          | exact ⟨trivial, rfl⟩
                          | exact rfl
                      refine pl_take (i := 17) 68 rfl rfl rfl (by kernel_rfl) (by kernel_rfl) (by kernel_rfl) (by simp [Act.put]) hS.out ?_
                      apply Exists.intro
                      refine And.intro (fun w' hS' => ?_) ?_
                      · refine wpList_unguard' rfl ?_
                        have hc : w'.cell? ad = some _ := hS'.1 0 _ rfl
                        clear hS'
                        go_wp2
                        first
                          | exact ⟨trivial, rfl⟩
                          | exact rfl
                      refine pl_take (i := 18) 69 rfl rfl rfl (by kernel_rfl) (by kernel_rfl) (by kernel_rfl) (by simp [Act.put]) hS.out ?_
                      apply Exists.intro
                      refine And.intro (fun w' hS' => ?_) ?_
                      · refine wpList_unguard' rfl ?_
                        clear hS'
                        go_wp2
                        first
                          | exact ⟨trivial, rfl⟩
                          | exact rfl
                      refine pl_take (i := 19) 70 rfl rfl rfl (by kernel_rfl) (by kernel_rfl) (by kernel_rfl) (by simp [Act.put]) hS.out ?_
                      apply Exists.intro
                      refine And.intro (fun w' hS' => ?_) ?_
                      · refine wpList_unguard' rfl ?_
                        refine wpList_bin rfl .neq 3 3 (.tmp 68) (.tmp 69) rfl (.bool false) (int_guard _ _ _ _ _ _) (int_ne' _ _ _ _ (by have := HQI.out; simp; omega)) ?_
                        clear hS'
                        go_wp2
                        first
                          | exact ⟨trivial, rfl⟩
                          | exact rfl
                      refine pl_take (i := 20) 71 rfl rfl rfl (by kernel_rfl) (by kernel_rfl) (by kernel_rfl) (by simp [Act.put]) hS.out ?_
                      apply Exists.intro
                      refine And.intro (fun w' hS' => ?_) ?_
                      · refine wpList_unguard' rfl ?_
                        clear hS'
                        go_wp2
                        first
                          | exact ⟨trivial, rfl⟩
                          | exact rfl
                      refine pl_take (i := 21) 72 rfl rfl rfl (by kernel_rfl) (by kernel_rfl) (by kernel_rfl) (by simp [Act.put]) hS.out ?_
                      apply Exists.intro
                      refine And.intro (fun w' hS' => ?_) ?_
                      · refine wpList_unguard' rfl ?_
                        clear hS'
                        go_wp2
                        first
                          | exact ⟨trivial, rfl⟩
                          | exact rfl
                      refine pl_take (i := 22) 73 rfl rfl rfl (by kernel_rfl) (by kernel_rfl) (by kernel_rfl) (by simp [Act.put]) hS.out ?_
                      apply Exists.intro
                      refine And.intro (fun w' hS' => ?_) ?_
                      · refine wpList_unguard' rfl ?_
                        clear hS'
                        go_wp2
                        first
                          | exact ⟨trivial, rfl⟩
                          | exact rfl
                      refine pl_take (i := 23) 74 rfl rfl rfl (by kernel_rfl) (by kernel_rfl) (by kernel_rfl) (by simp [Act.put]) hS.out ?_
                      apply Exists.intro
                      refine And.intro (fun w' hS' => ?_) ?_
                      · refine wpList_unguard' rfl ?_
                        clear hS'
                        go_wp2
                        first
                          | exact ⟨trivial, rfl⟩
                          | exact rfl
                      refine pl_take (i := 24) 75 rfl rfl rfl (by kernel_rfl) (by kernel_rfl) (by kernel_rfl) (by simp [Act.put]) hS.out ?_
                      apply Exists.intro
                      refine And.intro (fun w' hS' => ?_) ?_
                      · refine wpList_unguard' rfl ?_
                        clear hS'
                        go_wp2
                        first
                          | exact ⟨trivial, rfl⟩
                          | exact rfl
                      refine pl_take (i := 25) 76 rfl rfl rfl (by kernel_rfl) (by kernel_rfl) (by kernel_rfl) (by simp [Act.put]) hS.out ?_
                      apply Exists.intro
                      refine And.intro (fun w' hS' => ?_) ?_
                      · refine wpList_unguard' rfl ?_
                        clear hS'
                        go_wp2
                        first
                          | exact ⟨trivial, rfl⟩
                          | exact rfl
                      refine pl_take (i := 26) 77 rfl rfl rfl (by kernel_rfl) (by kernel_rfl) (by kernel_rfl) (by simp [Act.put]) hS.out ?_
                      apply Exists.intro
                      refine And.intro (fun w' hS' => ?_) ?_
                      · refine wpList_unguard' rfl ?_
                        clear hS'
                        go_wp2
                        first
                          | exact ⟨trivial, rfl⟩
                          | exact rfl
                      refine pl_take (i := 27) 78 rfl rfl rfl (by kernel_rfl) (by kernel_rfl) (by kernel_rfl) (by simp [Act.put]) hS.out ?_
                      apply Exists.intro
                      refine And.intro (fun w' hS' => ?_) ?_
                      · refine wpList_unguard' rfl ?_
                        have hc := cell_off (j := 2) (hS'.1 3 _ rfl)
                        clear hS'
                        go_wp2
                        first
                          | exact ⟨trivial, rfl⟩
                          | exact rfl
                      refine pl_take (i := 28) 79 rfl rfl rfl (by kernel_rfl) (by kernel_rfl) (by kernel_rfl) (by simp [Act.put]) hS.out ?_
                      apply Exists.intro
                      refine And.intro (fun w' hS' => ?_) ?_
                      · refine wpList_unguard' rfl ?_
                        clear hS'
                        go_wp2
                        first
                          | exact ⟨trivial, rfl⟩
                          | exact rfl
                      refine pl_take (i := 29) 80 rfl rfl rfl (by kernel_rfl) (by kernel_rfl) (by kernel_rfl) (by simp [Act.put]) hS.out ?_
                      apply Exists.intro
                      refine And.intro (fun w' hS' => ?_) ?_
                      · refine wpList_unguard' rfl ?_
                        clear hS'
                        go_wp2
                        first
                          | exact ⟨trivial, rfl⟩
                          | exact rfl
                      refine pl_take (i := 30) 81 rfl rfl rfl (by kernel_rfl) (by kernel_rfl) (by kernel_rfl) (by simp [Act.put]) hS.out ?_
                      apply Exists.intro
                      refine And.intro (fun w' hS' => ?_) ?_
                      · refine wpList_unguard' rfl ?_
                        clear hS'
                        go_wp2
                        first
                          | exact ⟨trivial, rfl⟩
                          | exact rfl
                      refine pl_take (i := 31) 82 rfl rfl rfl (by kernel_rfl) (by kernel_rfl) (by kernel_rfl) (by simp [Act.put]) hS.out ?_
                      apply Exists.intro
                      refine And.intro (fun w' hS' => ?_) ?_
                      · refine wpList_unguard' rfl ?_
                        clear hS'
                        go_wp2
                        first
                          | exact ⟨trivial, rfl⟩
                          | exact rfl
                      refine pl_take (i := 32) 83 rfl rfl rfl (by kernel_rfl) (by kernel_rfl) (by kernel_rfl) (by simp [Act.put]) hS.out ?_
                      apply Exists.intro
                      refine And.intro (fun w' hS' => ?_) ?_
                      · refine wpList_unguard' rfl ?_
                        clear hS'
                        go_wp2
                        first
                          | exact ⟨trivial, rfl⟩
                          | exact rfl
                      refine pl_take (i := 33) 84 rfl rfl rfl (by kernel_rfl) (by kernel_rfl) (by kernel_rfl) (by simp [Act.put]) hS.out ?_
                      apply Exists.intro
                      refine And.intro (fun w' hS' => ?_) ?_
                      · refine wpList_unguard' rfl ?_
                        have hcv := Rd.conv (P := Try.prog) (l := bd.drop n1) (by rw [← ML.out]; exact hS'.2.1) 29 9 5 Try.underlying29 Try.underlying5 Try.underlying9
                        clear hS'
                        go_wp2
                        first
                          | exact ⟨trivial, rfl⟩
                          | exact rfl
                      refine pl_take (i := 34) 85 rfl rfl rfl (by kernel_rfl) (by kernel_rfl) (by kernel_rfl) (by simp [Act.put]) hS.out ?_
                      apply Exists.intro
                      refine And.intro (fun w' hS' => ?_) ?_
                      · refine wpList_unguard' rfl ?_
                        clear hS'
                        go_wp2
                        first
                          | exact ⟨trivial, rfl⟩
                          | exact rfl
                      refine pl_take (i := 35) 86 rfl rfl rfl (by kernel_rfl) (by kernel_rfl) (by kernel_rfl) (by simp [Act.put]) hS.out ?_
                      apply Exists.intro
                      refine And.intro (fun w' hS' => ?_) ?_
                      · refine wpList_unguard' rfl ?_
                        clear hS'
                        go_wp2
                        first
                          | exact ⟨trivial, rfl⟩
                          | exact rfl
                      refine pl_take (i := 36) 87 rfl rfl rfl (by kernel_rfl) (by kernel_rfl) (by kernel_rfl) (by simp [Act.put]) hS.out ?_
                      apply Exists.intro
                      refine And.intro (fun w' hS' => ?_) ?_
                      · refine wpList_unguard' rfl ?_
                        clear hS'
                        go_wp2
                        first
                          | exact ⟨trivial, rfl⟩
                          | exact rfl
                      refine pl_take (i := 37) 88 rfl rfl rfl (by kernel_rfl) (by kernel_rfl) (by kernel_rfl) (by simp [Act.put]) hS.out ?_
                      apply Exists.intro
                      refine And.intro (fun w' hS' => ?_) ?_
                      · refine wpList_unguard' rfl ?_
                        have hc := cell_off (j := 2) (hS'.1 3 _ rfl)
                        clear hS'
                        go_wp2
                        first
                          | exact ⟨trivial, rfl⟩
                          | exact rfl
                      refine pl_take (i := 38) 89 rfl rfl rfl (by kernel_rfl) (by kernel_rfl) (by kernel_rfl) (by simp [Act.put]) hS.out ?_
                      apply Exists.intro
                      refine And.intro (fun w' hS' => ?_) ?_
                      · refine wpList_unguard' rfl ?_
                        clear hS'
                        go_wp2
                        first
                          | exact ⟨trivial, rfl⟩
                          | exact rfl
                      refine pl_take (i := 39) 90 rfl rfl rfl (by kernel_rfl) (by kernel_rfl) (by kernel_rfl) (by simp [Act.put]) hS.out ?_
                      apply Exists.intro
                      refine And.intro (fun w' hS' => ?_) ?_
                      · refine wpList_unguard' rfl ?_
                        clear hS'
                        go_wp2
                        first
                          | exact ⟨trivial, rfl⟩
                          | exact rfl
                      refine pl_take (i := 40) 91 rfl rfl rfl (by kernel_rfl) (by kernel_rfl) (by kernel_rfl) (by simp [Act.put]) hS.out ?_
                      apply Exists.intro
                      refine And.intro (fun w' hS' => ?_) ?_
                      · refine wpList_unguard' rfl ?_
                        clear hS'
                        go_wp2
                        first
                          | exact ⟨trivial, rfl⟩
                          | exact rfl
                      refine pl_take (i := 41) 92 rfl rfl rfl (by kernel_rfl) (by kernel_rfl) (by kernel_rfl) (by simp [Act.put]) hS.out ?_
                      apply Exists.intro
                      refine And.intro (fun w' hS' => ?_) ?_
                      · refine wpList_unguard' rfl ?_
                        have hcv := RBK.out w' hS'.2.2
                        clear hS'
                        go_wp2
                        first
                          | exact ⟨trivial, rfl⟩
                          | exact rfl
                      refine pl_take (i := 42) 93 rfl rfl rfl (by kernel_rfl) (by kernel_rfl) (by kernel_rfl) (by simp [Act.put]) hS.out ?_
                      apply Exists.intro
                      refine And.intro (fun w' hS' => ?_) ?_
                      · refine wpList_unguard' rfl ?_
                        refine wpList_bin rfl .neq 9 9 (.tmp 84) (.tmp 92) rfl (.bool false) (str_guard _ _ _ _ _ _) (str_neq' _ _ _ _ (by simpa using HEQ.out)) ?_
                        clear hS'
                        go_wp2
                        first
                          | exact ⟨trivial, rfl⟩
                          | exact rfl
                      refine pl_take (i := 43) 94 rfl rfl rfl (by kernel_rfl) (by kernel_rfl) (by kernel_rfl) (by simp [Act.put]) hS.out ?_
                      apply Exists.intro
                      refine And.intro (fun w' hS' => ?_) ?_
                      · refine wpList_unguard' rfl ?_
                        clear hS'
                        go_wp2
                        first
                          | exact ⟨trivial, rfl⟩
                          | exact rfl
                      refine pl_take (i := 44) 95 rfl rfl rfl (by kernel_rfl) (by kernel_rfl) (by kernel_rfl) (by simp [Act.put]) hS.out ?_
                      apply Exists.intro
                      refine And.intro (fun w' hS' => ?_) ?_
                      · clear hS'
                        go_wp2
                        first
                          | exact ⟨trivial, rfl⟩
                          | exact rfl
                      refine pl_done (by kernel_rfl) ?_
                      clear hS RBK MLE HMB RB bmb bmc g1 g2 RN0 RN1 RN2 HST HEQ f1 f2 hle bnc m0 m1 m2 bm LEI bcn bn3 bn1 bc3 hq16
                      generalize hs1 : Value.string { data := (List.take m b).toArray } = s1
                      generalize hs2 : Value.string { data := (List.drop n1 bd).toArray } = s2
                      generalize hs3 : Value.string { data := (List.take n1 bd).toArray } = s3
                      generalize hs4 : Value.string { data := br.toArray } = s4
                      clear hs1 hs2 hs3 hs4 bR
                      go_wp2
                      go_roundw
                      case rel => exact ⟨B4D.out.drew, i + 1, HN.out.2.2.2.2, by go_num⟩
                      case measure => have := HN.out.2.2.2.2; simp only [RowKit.intOf]; omega
                    · have HEQ2 : Hid ((bd.drop n1 != b.take m) = true) := Lib.hid (by simpa using hst)
                      have HST := Lib.hid hst
                      have hS2 : Hid ((∀ j u, [Value.int .i64 (q : Int), .int .i64 0, .bool false, .slice ab mb cb][j]? = some u → w4.drew.drew.cell? (ad.add j) = some u) ∧ Rd w4.drew.drew 1 (.slice a4 m c4) m (bvs (bd.drop n1)) ∧ Rd w4.drew.drew 1 (.slice ab mb cb) mb (bvs b)) := Lib.hid ⟨hS.out.1, hS.out.2, by have := RB.out.1; rw [← HMB.out] at this; exact this⟩
                      clear hst hS
                      have hS := hS2
                      have HEQ := HEQ2
                      clear hS2 HEQ2
                      go_wp2_with fail
                      refine pl_start 45 rfl (fun w' => (∀ j u, [Value.int .i64 (q : Int), .int .i64 0, .bool false, .slice ab mb cb][j]? = some u → w'.cell? (ad.add j) = some u) ∧ Rd w' 1 (.slice a4 m c4) m (bvs (bd.drop n1)) ∧ Rd w' 1 (.slice ab mb cb) mb (bvs b)) (by kernel_rfl) ?_
                      refine pl_take (i := 0) 51 rfl rfl rfl (by kernel_rfl) (by kernel_rfl) (by kernel_rfl) (by simp [Act.put]) hS.out ?_
                      apply Exists.intro
                      refine And.intro (fun w' hS' => ?_) ?_
                      · clear hS'
                        go_wp2
                        first
                          | exact ⟨trivial, rfl⟩
                          | exact rfl
                      refine pl_take (i := 1) 52 rfl rfl rfl (by kernel_rfl) (by kernel_rfl) (by kernel_rfl) (by simp [Act.put]) hS.out ?_
                      apply Exists.intro
                      refine And.intro (fun w' hS' => ?_) ?_
                      · clear hS'
                        go_wp2
                        first
                          | exact ⟨trivial, rfl⟩
                          | exact rfl
                      refine pl_take (i := 2) 53 rfl rfl rfl (by kernel_rfl) (by kernel_rfl) (by kernel_rfl) (by simp [Act.put]) hS.out ?_
                      apply Exists.intro
                      refine And.intro (fun w' hS' => ?_) ?_
                      · clear hS'
                        go_wp2
                        first
                          | exact ⟨trivial, rfl⟩
                          | exact rfl
                      refine pl_take (i := 3) 54 rfl rfl rfl (by kernel_rfl) (by kernel_rfl) (by kernel_rfl) (by simp [Act.put]) hS.out ?_
                      apply Exists.intro
                      refine And.intro (fun w' hS' => ?_) ?_
                      · clear hS'
                        go_wp2
                        first
                          | exact ⟨trivial, rfl⟩
                          | exact rfl
                      refine pl_take (i := 4) 55 rfl rfl rfl (by kernel_rfl) (by kernel_rfl) (by kernel_rfl) (by simp [Act.put]) hS.out ?_
                      apply Exists.intro
                      refine And.intro (fun w' hS' => ?_) ?_
                      · refine wpList_unguard' rfl ?_
                        clear hS'
                        go_wp2
                        first
                          | exact ⟨trivial, rfl⟩
                          | exact rfl
                      refine pl_take (i := 5) 56 rfl rfl rfl (by kernel_rfl) (by kernel_rfl) (by kernel_rfl) (by simp [Act.put]) hS.out ?_
                      apply Exists.intro
                      refine And.intro (fun w' hS' => ?_) ?_
                      · refine wpList_unguard' rfl ?_
                        clear hS'
                        go_wp2
                        first
                          | exact ⟨trivial, rfl⟩
                          | exact rfl
                      refine pl_take (i := 6) 57 rfl rfl rfl (by kernel_rfl) (by kernel_rfl) (by kernel_rfl) (by simp [Act.put]) hS.out ?_
                      apply Exists.intro
                      refine And.intro (fun w' hS' => ?_) ?_
                      · refine wpList_unguard' rfl ?_
                        clear hS'
                        go_wp2
                        first
                          | exact ⟨trivial, rfl⟩
                          | exact rfl
                      refine pl_take (i := 7) 58 rfl rfl rfl (by kernel_rfl) (by kernel_rfl) (by kernel_rfl) (by simp [Act.put]) hS.out ?_
                      apply Exists.intro
                      refine And.intro (fun w' hS' => ?_) ?_
                      · refine wpList_unguard' rfl ?_
                        clear hS'
                        go_wp2
                        first
                          | exact ⟨trivial, rfl⟩
                          | exact rfl
                      refine pl_take (i := 8) 59 rfl rfl rfl (by kernel_rfl) (by kernel_rfl) (by kernel_rfl) (by simp [Act.put]) hS.out ?_
                      apply Exists.intro
                      refine And.intro (fun w' hS' => ?_) ?_
                      · refine wpList_unguard' rfl ?_
                        clear hS'
                        go_wp2
                        first
                          | exact ⟨trivial, rfl⟩
                          | exact rfl
                      refine pl_take (i := 9) 60 rfl rfl rfl (by kernel_rfl) (by kernel_rfl) (by kernel_rfl) (by simp [Act.put]) hS.out ?_
                      apply Exists.intro
                      refine And.intro (fun w' hS' => ?_) ?_
                      · refine wpList_unguard' rfl ?_
                        clear hS'
                        go_wp2
                        first
                          | exact ⟨trivial, rfl⟩
                          | exact rfl
                      refine pl_take (i := 10) 61 rfl rfl rfl (by kernel_rfl) (by kernel_rfl) (by kernel_rfl) (by simp [Act.put]) hS.out ?_
                      apply Exists.intro
                      refine And.intro (fun w' hS' => ?_) ?_
                      · refine wpList_unguard' rfl ?_
                        clear hS'
                        go_wp2
                        first
                          | exact ⟨trivial, rfl⟩
                          | exact rfl
                      refine pl_take (i := 11) 62 rfl rfl rfl (by kernel_rfl) (by kernel_rfl) (by kernel_rfl) (by simp [Act.put]) hS.out ?_
                      apply Exists.intro
                      refine And.intro (fun w' hS' => ?_) ?_
                      · refine wpList_unguard' rfl ?_
                        have hc := cell_off (j := 1) (hS'.1 2 _ rfl)
                        clear hS'
                        go_wp2
                        first
                          | exact ⟨trivial, rfl⟩
                          | exact rfl
                      refine pl_take (i := 12) 63 rfl rfl rfl (by kernel_rfl) (by kernel_rfl) (by kernel_rfl) (by simp [Act.put]) hS.out ?_
                      apply Exists.intro
                      refine And.intro (fun w' hS' => ?_) ?_
                      · refine wpList_unguard' rfl ?_
                        clear hS'
                        go_wp2
                        first
                          | exact ⟨trivial, rfl⟩
                          | exact rfl
                      refine pl_take (i := 13) 64 rfl rfl rfl (by kernel_rfl) (by kernel_rfl) (by kernel_rfl) (by simp [Act.put]) hS.out ?_
                      apply Exists.intro
                      refine And.intro (fun w' hS' => ?_) ?_
                      · refine wpList_unguard' rfl ?_
                        clear hS'
                        go_wp2
                        first
                          | exact ⟨trivial, rfl⟩
                          | exact rfl
                      refine pl_take (i := 14) 65 rfl rfl rfl (by kernel_rfl) (by kernel_rfl) (by kernel_rfl) (by simp [Act.put]) hS.out ?_
                      apply Exists.intro
                      refine And.intro (fun w' hS' => ?_) ?_
                      · refine wpList_unguard' rfl ?_
                        clear hS'
                        go_wp2
                        first
                          | exact ⟨trivial, rfl⟩
                          | exact rfl
                      refine pl_take (i := 15) 66 rfl rfl rfl (by kernel_rfl) (by kernel_rfl) (by kernel_rfl) (by simp [Act.put]) hS.out ?_
                      apply Exists.intro
                      refine And.intro (fun w' hS' => ?_) ?_
                      · refine wpList_unguard' rfl ?_
                        clear hS'
                        go_wp2
                        first
                          | exact ⟨trivial, rfl⟩
                          | exact rfl
                      refine pl_take (i := 16) 67 rfl rfl rfl (by kernel_rfl) (by kernel_rfl) (by kernel_rfl) (by simp [Act.put]) hS.out ?_
                      apply Exists.intro
                      refine And.intro (fun w' hS' => ?_) ?_
                      · refine wpList_unguard' rfl ?_
                        clear hS'
                        go_wp2
                        first
                          | exact ⟨trivial, rfl⟩
                          | exact rfl
                      refine pl_take (i := 17) 68 rfl rfl rfl (by kernel_rfl) (by kernel_rfl) (by kernel_rfl) (by simp [Act.put]) hS.out ?_
                      apply Exists.intro
                      refine And.intro (fun w' hS' => ?_) ?_
                      · refine wpList_unguard' rfl ?_
                        have hc : w'.cell? ad = some _ := hS'.1 0 _ rfl
                        clear hS'
                        go_wp2
                        first
                          | exact ⟨trivial, rfl⟩
                          | exact rfl
                      refine pl_take (i := 18) 69 rfl rfl rfl (by kernel_rfl) (by kernel_rfl) (by kernel_rfl) (by simp [Act.put]) hS.out ?_
                      apply Exists.intro
                      refine And.intro (fun w' hS' => ?_) ?_
                      · refine wpList_unguard' rfl ?_
                        clear hS'
                        go_wp2
                        first
                          | exact ⟨trivial, rfl⟩
                          | exact rfl
                      refine pl_take (i := 19) 70 rfl rfl rfl (by kernel_rfl) (by kernel_rfl) (by kernel_rfl) (by simp [Act.put]) hS.out ?_
                      apply Exists.intro
                      refine And.intro (fun w' hS' => ?_) ?_
                      · refine wpList_unguard' rfl ?_
                        refine wpList_bin rfl .neq 3 3 (.tmp 68) (.tmp 69) rfl (.bool false) (int_guard _ _ _ _ _ _) (int_ne' _ _ _ _ (by have := HQI.out; simp; omega)) ?_
                        clear hS'
                        go_wp2
                        first
                          | exact ⟨trivial, rfl⟩
                          | exact rfl
                      refine pl_take (i := 20) 71 rfl rfl rfl (by kernel_rfl) (by kernel_rfl) (by kernel_rfl) (by simp [Act.put]) hS.out ?_
                      apply Exists.intro
                      refine And.intro (fun w' hS' => ?_) ?_
                      · refine wpList_unguard' rfl ?_
                        clear hS'
                        go_wp2
                        first
                          | exact ⟨trivial, rfl⟩
                          | exact rfl
                      refine pl_take (i := 21) 72 rfl rfl rfl (by kernel_rfl) (by kernel_rfl) (by kernel_rfl) (by simp [Act.put]) hS.out ?_
                      apply Exists.intro
                      refine And.intro (fun w' hS' => ?_) ?_
                      · refine wpList_unguard' rfl ?_
                        clear hS'
                        go_wp2
                        first
                          | exact ⟨trivial, rfl⟩
                          | exact rfl
                      refine pl_take (i := 22) 73 rfl rfl rfl (by kernel_rfl) (by kernel_rfl) (by kernel_rfl) (by simp [Act.put]) hS.out ?_
                      apply Exists.intro
                      refine And.intro (fun w' hS' => ?_) ?_
                      · refine wpList_unguard' rfl ?_
                        clear hS'
                        go_wp2
                        first
                          | exact ⟨trivial, rfl⟩
                          | exact rfl
                      refine pl_take (i := 23) 74 rfl rfl rfl (by kernel_rfl) (by kernel_rfl) (by kernel_rfl) (by simp [Act.put]) hS.out ?_
                      apply Exists.intro
                      refine And.intro (fun w' hS' => ?_) ?_
                      · refine wpList_unguard' rfl ?_
                        clear hS'
                        go_wp2
                        first
                          | exact ⟨trivial, rfl⟩
                          | exact rfl
                      refine pl_take (i := 24) 75 rfl rfl rfl (by kernel_rfl) (by kernel_rfl) (by kernel_rfl) (by simp [Act.put]) hS.out ?_
                      apply Exists.intro
                      refine And.intro (fun w' hS' => ?_) ?_
                      · refine wpList_unguard' rfl ?_
                        clear hS'
                        go_wp2
                        first
                          | exact ⟨trivial, rfl⟩
                          | exact rfl
                      refine pl_take (i := 25) 76 rfl rfl rfl (by kernel_rfl) (by kernel_rfl) (by kernel_rfl) (by simp [Act.put]) hS.out ?_
                      apply Exists.intro
                      refine And.intro (fun w' hS' => ?_) ?_
                      · refine wpList_unguard' rfl ?_
                        clear hS'
                        go_wp2
                        first
                          | exact ⟨trivial, rfl⟩
                          | exact rfl
                      refine pl_take (i := 26) 77 rfl rfl rfl (by kernel_rfl) (by kernel_rfl) (by kernel_rfl) (by simp [Act.put]) hS.out ?_
                      apply Exists.intro
                      refine And.intro (fun w' hS' => ?_) ?_
                      · refine wpList_unguard' rfl ?_
                        clear hS'
                        go_wp2
                        first
                          | exact ⟨trivial, rfl⟩
                          | exact rfl
                      refine pl_take (i := 27) 78 rfl rfl rfl (by kernel_rfl) (by kernel_rfl) (by kernel_rfl) (by simp [Act.put]) hS.out ?_
                      apply Exists.intro
                      refine And.intro (fun w' hS' => ?_) ?_
                      · refine wpList_unguard' rfl ?_
                        have hc := cell_off (j := 2) (hS'.1 3 _ rfl)
                        clear hS'
                        go_wp2
                        first
                          | exact ⟨trivial, rfl⟩
                          | exact rfl
                      refine pl_take (i := 28) 79 rfl rfl rfl (by kernel_rfl) (by kernel_rfl) (by kernel_rfl) (by simp [Act.put]) hS.out ?_
                      apply Exists.intro
                      refine And.intro (fun w' hS' => ?_) ?_
                      · refine wpList_unguard' rfl ?_
                        clear hS'
                        go_wp2
                        first
                          | exact ⟨trivial, rfl⟩
                          | exact rfl
                      refine pl_take (i := 29) 80 rfl rfl rfl (by kernel_rfl) (by kernel_rfl) (by kernel_rfl) (by simp [Act.put]) hS.out ?_
                      apply Exists.intro
                      refine And.intro (fun w' hS' => ?_) ?_
                      · refine wpList_unguard' rfl ?_
                        clear hS'
                        go_wp2
                        first
                          | exact ⟨trivial, rfl⟩
                          | exact rfl
                      refine pl_take (i := 30) 81 rfl rfl rfl (by kernel_rfl) (by kernel_rfl) (by kernel_rfl) (by simp [Act.put]) hS.out ?_
                      apply Exists.intro
                      refine And.intro (fun w' hS' => ?_) ?_
                      · refine wpList_unguard' rfl ?_
                        clear hS'
                        go_wp2
                        first
                          | exact ⟨trivial, rfl⟩
                          | exact rfl
                      refine pl_take (i := 31) 82 rfl rfl rfl (by kernel_rfl) (by kernel_rfl) (by kernel_rfl) (by simp [Act.put]) hS.out ?_
                      apply Exists.intro
                      refine And.intro (fun w' hS' => ?_) ?_
                      · refine wpList_unguard' rfl ?_
                        clear hS'
                        go_wp2
                        first
                          | exact ⟨trivial, rfl⟩
                          | exact rfl
                      refine pl_take (i := 32) 83 rfl rfl rfl (by kernel_rfl) (by kernel_rfl) (by kernel_rfl) (by simp [Act.put]) hS.out ?_
                      apply Exists.intro
                      refine And.intro (fun w' hS' => ?_) ?_
                      · refine wpList_unguard' rfl ?_
                        clear hS'
                        go_wp2
                        first
                          | exact ⟨trivial, rfl⟩
                          | exact rfl
                      refine pl_take (i := 33) 84 rfl rfl rfl (by kernel_rfl) (by kernel_rfl) (by kernel_rfl) (by simp [Act.put]) hS.out ?_
                      apply Exists.intro
                      refine And.intro (fun w' hS' => ?_) ?_
                      · refine wpList_unguard' rfl ?_
                        have hcv := Rd.conv (P := Try.prog) (l := bd.drop n1) (by rw [← ML.out]; exact hS'.2.1) 29 9 5 Try.underlying29 Try.underlying5 Try.underlying9
                        clear hS'
                        go_wp2
                        first
                          | exact ⟨trivial, rfl⟩
                          | exact rfl
                      refine pl_take (i := 34) 85 rfl rfl rfl (by kernel_rfl) (by kernel_rfl) (by kernel_rfl) (by simp [Act.put]) hS.out ?_
                      apply Exists.intro
                      refine And.intro (fun w' hS' => ?_) ?_
                      · refine wpList_unguard' rfl ?_
                        clear hS'
                        go_wp2
                        first
                          | exact ⟨trivial, rfl⟩
                          | exact rfl
                      refine pl_take (i := 35) 86 rfl rfl rfl (by kernel_rfl) (by kernel_rfl) (by kernel_rfl) (by simp [Act.put]) hS.out ?_
                      apply Exists.intro
                      refine And.intro (fun w' hS' => ?_) ?_
                      · refine wpList_unguard' rfl ?_
                        clear hS'
                        go_wp2
                        first
                          | exact ⟨trivial, rfl⟩
                          | exact rfl
                      refine pl_take (i := 36) 87 rfl rfl rfl (by kernel_rfl) (by kernel_rfl) (by kernel_rfl) (by simp [Act.put]) hS.out ?_
                      apply Exists.intro
                      refine And.intro (fun w' hS' => ?_) ?_
                      · refine wpList_unguard' rfl ?_
                        clear hS'
                        go_wp2
                        first
                          | exact ⟨trivial, rfl⟩
                          | exact rfl
                      refine pl_take (i := 37) 88 rfl rfl rfl (by kernel_rfl) (by kernel_rfl) (by kernel_rfl) (by simp [Act.put]) hS.out ?_
                      apply Exists.intro
                      refine And.intro (fun w' hS' => ?_) ?_
                      · refine wpList_unguard' rfl ?_
                        have hc := cell_off (j := 2) (hS'.1 3 _ rfl)
                        clear hS'
                        go_wp2
                        first
                          | exact ⟨trivial, rfl⟩
                          | exact rfl
                      refine pl_take (i := 38) 89 rfl rfl rfl (by kernel_rfl) (by kernel_rfl) (by kernel_rfl) (by simp [Act.put]) hS.out ?_
                      apply Exists.intro
                      refine And.intro (fun w' hS' => ?_) ?_
                      · refine wpList_unguard' rfl ?_
                        clear hS'
                        go_wp2
                        first
                          | exact ⟨trivial, rfl⟩
                          | exact rfl
                      refine pl_take (i := 39) 90 rfl rfl rfl (by kernel_rfl) (by kernel_rfl) (by kernel_rfl) (by simp [Act.put]) hS.out ?_
                      apply Exists.intro
                      refine And.intro (fun w' hS' => ?_) ?_
                      · refine wpList_unguard' rfl ?_
                        clear hS'
                        go_wp2
                        first
                          | exact ⟨trivial, rfl⟩
                          | exact rfl
                      refine pl_take (i := 40) 91 rfl rfl rfl (by kernel_rfl) (by kernel_rfl) (by kernel_rfl) (by simp [Act.put]) hS.out ?_
                      apply Exists.intro
                      refine And.intro (fun w' hS' => ?_) ?_
                      · refine wpList_unguard' rfl ?_
                        clear hS'
                        go_wp2
                        first
                          | exact ⟨trivial, rfl⟩
                          | exact rfl
                      refine pl_take (i := 41) 92 rfl rfl rfl (by kernel_rfl) (by kernel_rfl) (by kernel_rfl) (by simp [Act.put]) hS.out ?_
                      apply Exists.intro
                      refine And.intro (fun w' hS' => ?_) ?_
                      · refine wpList_unguard' rfl ?_
                        have hcv := RBK.out w' hS'.2.2
                        clear hS'
                        go_wp2
                        first
                          | exact ⟨trivial, rfl⟩
                          | exact rfl
                      refine pl_take (i := 42) 93 rfl rfl rfl (by kernel_rfl) (by kernel_rfl) (by kernel_rfl) (by simp [Act.put]) hS.out ?_
                      apply Exists.intro
                      refine And.intro (fun w' hS' => ?_) ?_
                      · refine wpList_unguard' rfl ?_
                        refine wpList_bin rfl .neq 9 9 (.tmp 84) (.tmp 92) rfl (.bool true) (str_guard _ _ _ _ _ _) (str_neq' _ _ _ _ (by simpa using HEQ.out)) ?_
                        clear hS'
                        go_wp2
                        first
                          | exact ⟨trivial, rfl⟩
                          | exact rfl
                      refine pl_take (i := 43) 94 rfl rfl rfl (by kernel_rfl) (by kernel_rfl) (by kernel_rfl) (by simp [Act.put]) hS.out ?_
                      apply Exists.intro
                      refine And.intro (fun w' hS' => ?_) ?_
                      · refine wpList_unguard' rfl ?_
                        clear hS'
                        go_wp2
                        first
                          | exact ⟨trivial, rfl⟩
                          | exact rfl
                      refine pl_take (i := 44) 95 rfl rfl rfl (by kernel_rfl) (by kernel_rfl) (by kernel_rfl) (by simp [Act.put]) hS.out ?_
                      apply Exists.intro
                      refine And.intro (fun w' hS' => ?_) ?_
                      · clear hS'
                        go_wp2
                        first
                          | exact ⟨trivial, rfl⟩
                          | exact rfl
                      refine pl_done (by kernel_rfl) ?_
                      go_wp2
                      go_ret
                      exact ⟨⟨false, rfl, fun hq => absurd (NQ.out hq) (by
                                      rintro ⟨mo, h1, h2⟩
                                      have h3 := MO.out mo h1
                                      have h4 := ML.out
                                      rw [h3] at h4
                                      rcases h2 with rfl | ⟨b, r', h5, h6, h7⟩
                                      · exact HM0.out h4
                                      · rw [HRC.out] at h5
                                        simp only [List.cons.injEq, St.put.injEq] at h5
                                        obtain ⟨⟨_, rfl⟩, _⟩ := h5
                                        rw [← h4, ← h3] at h7
                                        exact HST.out h7)⟩, BFD.out⟩
                · have g1 : ((q : Int) = (i : Int)) = False := by simp; omega
                  have g2 : (decide ((q : Int) = (i : Int))) = false := by simp; omega
                  have g3 : (decide (q = i)) = false := decide_eq_false hqi
                  have HQI := Lib.hid hqi
                  clear hqi
                  go_wp2_with fail
                  refine pl_start 45 rfl (fun w' => (∀ j u, [Value.int .i64 (q : Int), .int .i64 0, .bool false, .slice ab mb cb][j]? = some u → w'.cell? (ad.add j) = some u) ∧ Rd w' 1 (.slice a4 m c4) m (bvs (bd.drop n1))) (by kernel_rfl) ?_
                  refine pl_take (i := 0) 51 rfl rfl rfl (by kernel_rfl) (by kernel_rfl) (by kernel_rfl) (by simp [Act.put]) hS.out ?_
                  apply Exists.intro
                  refine And.intro (fun w' hS' => ?_) ?_
                  · clear hS'
                    go_wp2
                    first
                      | exact ⟨trivial, rfl⟩
                      | exact rfl
                  refine pl_take (i := 1) 52 rfl rfl rfl (by kernel_rfl) (by kernel_rfl) (by kernel_rfl) (by simp [Act.put]) hS.out ?_
                  apply Exists.intro
                  refine And.intro (fun w' hS' => ?_) ?_
                  · clear hS'
                    go_wp2
                    first
                      | exact ⟨trivial, rfl⟩
                      | exact rfl
                  refine pl_take (i := 2) 53 rfl rfl rfl (by kernel_rfl) (by kernel_rfl) (by kernel_rfl) (by simp [Act.put]) hS.out ?_
                  apply Exists.intro
                  refine And.intro (fun w' hS' => ?_) ?_
                  · clear hS'
                    go_wp2
                    first
                      | exact ⟨trivial, rfl⟩
                      | exact rfl
                  refine pl_take (i := 3) 54 rfl rfl rfl (by kernel_rfl) (by kernel_rfl) (by kernel_rfl) (by simp [Act.put]) hS.out ?_
                  apply Exists.intro
                  refine And.intro (fun w' hS' => ?_) ?_
                  · clear hS'
                    go_wp2
                    first
                      | exact ⟨trivial, rfl⟩
                      | exact rfl
                  refine pl_take (i := 4) 55 rfl rfl rfl (by kernel_rfl) (by kernel_rfl) (by kernel_rfl) (by simp [Act.put]) hS.out ?_
                  apply Exists.intro
                  refine And.intro (fun w' hS' => ?_) ?_
                  · refine wpList_unguard' rfl ?_
                    clear hS'
                    go_wp2
                    first
                      | exact ⟨trivial, rfl⟩
                      | exact rfl
                  refine pl_take (i := 5) 56 rfl rfl rfl (by kernel_rfl) (by kernel_rfl) (by kernel_rfl) (by simp [Act.put]) hS.out ?_
                  apply Exists.intro
                  refine And.intro (fun w' hS' => ?_) ?_
                  · refine wpList_unguard' rfl ?_
                    clear hS'
                    go_wp2
                    first
                      | exact ⟨trivial, rfl⟩
                      | exact rfl
                  refine pl_take (i := 6) 57 rfl rfl rfl (by kernel_rfl) (by kernel_rfl) (by kernel_rfl) (by simp [Act.put]) hS.out ?_
                  apply Exists.intro
                  refine And.intro (fun w' hS' => ?_) ?_
                  · refine wpList_unguard' rfl ?_
                    clear hS'
                    go_wp2
                    first
                      | exact ⟨trivial, rfl⟩
                      | exact rfl
                  refine pl_take (i := 7) 58 rfl rfl rfl (by kernel_rfl) (by kernel_rfl) (by kernel_rfl) (by simp [Act.put]) hS.out ?_
                  apply Exists.intro
                  refine And.intro (fun w' hS' => ?_) ?_
                  · refine wpList_unguard' rfl ?_
                    clear hS'
                    go_wp2
                    first
                      | exact ⟨trivial, rfl⟩
                      | exact rfl
                  refine pl_take (i := 8) 59 rfl rfl rfl (by kernel_rfl) (by kernel_rfl) (by kernel_rfl) (by simp [Act.put]) hS.out ?_
                  apply Exists.intro
                  refine And.intro (fun w' hS' => ?_) ?_
                  · refine wpList_unguard' rfl ?_
                    clear hS'
                    go_wp2
                    first
                      | exact ⟨trivial, rfl⟩
                      | exact rfl
                  refine pl_take (i := 9) 60 rfl rfl rfl (by kernel_rfl) (by kernel_rfl) (by kernel_rfl) (by simp [Act.put]) hS.out ?_
                  apply Exists.intro
                  refine And.intro (fun w' hS' => ?_) ?_
                  · refine wpList_unguard' rfl ?_
                    clear hS'
                    go_wp2
                    first
                      | exact ⟨trivial, rfl⟩
                      | exact rfl
                  refine pl_take (i := 10) 61 rfl rfl rfl (by kernel_rfl) (by kernel_rfl) (by kernel_rfl) (by simp [Act.put]) hS.out ?_
                  apply Exists.intro
                  refine And.intro (fun w' hS' => ?_) ?_
                  · refine wpList_unguard' rfl ?_
                    clear hS'
                    go_wp2
                    first
                      | exact ⟨trivial, rfl⟩
                      | exact rfl
                  refine pl_take (i := 11) 62 rfl rfl rfl (by kernel_rfl) (by kernel_rfl) (by kernel_rfl) (by simp [Act.put]) hS.out ?_
                  apply Exists.intro
                  refine And.intro (fun w' hS' => ?_) ?_
                  · refine wpList_unguard' rfl ?_
                    have hc := cell_off (j := 1) (hS'.1 2 _ rfl)
                    clear hS'
                    go_wp2
                    first
                      | exact ⟨trivial, rfl⟩
                      | exact rfl
                  refine pl_take (i := 12) 63 rfl rfl rfl (by kernel_rfl) (by kernel_rfl) (by kernel_rfl) (by simp [Act.put]) hS.out ?_
                  apply Exists.intro
                  refine And.intro (fun w' hS' => ?_) ?_
                  · refine wpList_unguard' rfl ?_
                    clear hS'
                    go_wp2
                    first
                      | exact ⟨trivial, rfl⟩
                      | exact rfl
                  refine pl_take (i := 13) 64 rfl rfl rfl (by kernel_rfl) (by kernel_rfl) (by kernel_rfl) (by simp [Act.put]) hS.out ?_
                  apply Exists.intro
                  refine And.intro (fun w' hS' => ?_) ?_
                  · refine wpList_unguard' rfl ?_
                    clear hS'
                    go_wp2
                    first
                      | exact ⟨trivial, rfl⟩
                      | exact rfl
                  refine pl_take (i := 14) 65 rfl rfl rfl (by kernel_rfl) (by kernel_rfl) (by kernel_rfl) (by simp [Act.put]) hS.out ?_
                  apply Exists.intro
                  refine And.intro (fun w' hS' => ?_) ?_
                  · refine wpList_unguard' rfl ?_
                    clear hS'
                    go_wp2
                    first
                      | exact ⟨trivial, rfl⟩
                      | exact rfl
                  refine pl_take (i := 15) 66 rfl rfl rfl (by kernel_rfl) (by kernel_rfl) (by kernel_rfl) (by simp [Act.put]) hS.out ?_
                  apply Exists.intro
                  refine And.intro (fun w' hS' => ?_) ?_
                  · refine wpList_unguard' rfl ?_
                    clear hS'
                    go_wp2
                    first
                      | exact ⟨trivial, rfl⟩
                      | exact rfl
                  refine pl_take (i := 16) 67 rfl rfl rfl (by kernel_rfl) (by kernel_rfl) (by kernel_rfl) (by simp [Act.put]) hS.out ?_
                  apply Exists.intro
                  refine And.intro (fun w' hS' => ?_) ?_
                  · refine wpList_unguard' rfl ?_
                    clear hS'
                    go_wp2
                    first
                      | exact ⟨trivial, rfl⟩
                      | exact rfl
                  refine pl_take (i := 17) 68 rfl rfl rfl (by kernel_rfl) (by kernel_rfl) (by kernel_rfl) (by simp [Act.put]) hS.out ?_
                  apply Exists.intro
                  refine And.intro (fun w' hS' => ?_) ?_
                  · refine wpList_unguard' rfl ?_
                    have hc : w'.cell? ad = some _ := hS'.1 0 _ rfl
                    clear hS'
                    go_wp2
                    first
                      | exact ⟨trivial, rfl⟩
                      | exact rfl
                  refine pl_take (i := 18) 69 rfl rfl rfl (by kernel_rfl) (by kernel_rfl) (by kernel_rfl) (by simp [Act.put]) hS.out ?_
                  apply Exists.intro
                  refine And.intro (fun w' hS' => ?_) ?_
                  · refine wpList_unguard' rfl ?_
                    clear hS'
                    go_wp2
                    first
                      | exact ⟨trivial, rfl⟩
                      | exact rfl
                  refine pl_take (i := 19) 70 rfl rfl rfl (by kernel_rfl) (by kernel_rfl) (by kernel_rfl) (by simp [Act.put]) hS.out ?_
                  apply Exists.intro
                  refine And.intro (fun w' hS' => ?_) ?_
                  · refine wpList_unguard' rfl ?_
                    refine wpList_bin rfl .neq 3 3 (.tmp 68) (.tmp 69) rfl (.bool true) (int_guard _ _ _ _ _ _) (int_ne' _ _ _ _ (by have := HQI.out; simp; omega)) ?_
                    clear hS'
                    go_wp2
                    first
                      | exact ⟨trivial, rfl⟩
                      | exact rfl
                  refine pl_take (i := 20) 71 rfl rfl rfl (by kernel_rfl) (by kernel_rfl) (by kernel_rfl) (by simp [Act.put]) hS.out ?_
                  apply Exists.intro
                  refine And.intro (fun w' hS' => ?_) ?_
                  · refine wpList_unguard' rfl ?_
                    clear hS'
                    go_wp2
                    first
                      | exact ⟨trivial, rfl⟩
                      | exact rfl
                  refine pl_take (i := 21) 72 rfl rfl rfl (by kernel_rfl) (by kernel_rfl) (by kernel_rfl) (by simp [Act.put]) hS.out ?_
                  apply Exists.intro
                  refine And.intro (fun w' hS' => ?_) ?_
                  · refine wpList_unguard' rfl ?_
                    clear hS'
                    go_wp2
                    first
                      | exact ⟨trivial, rfl⟩
                      | exact rfl
                  refine pl_skip (i := 22) rfl (by kernel_rfl) (by kernel_rfl) (by kernel_rfl) (by kernel_rfl) hS.out ?_
                  apply Exists.intro
                  refine And.intro (by simp [Act.put, go_sem]; rfl) ?_
                  refine pl_skip (i := 23) rfl (by kernel_rfl) (by kernel_rfl) (by kernel_rfl) (by kernel_rfl) hS.out ?_
                  apply Exists.intro
                  refine And.intro (by simp [Act.put, go_sem]; rfl) ?_
                  refine pl_skip (i := 24) rfl (by kernel_rfl) (by kernel_rfl) (by kernel_rfl) (by kernel_rfl) hS.out ?_
                  apply Exists.intro
                  refine And.intro (by simp [Act.put, go_sem]; rfl) ?_
                  refine pl_skip (i := 25) rfl (by kernel_rfl) (by kernel_rfl) (by kernel_rfl) (by kernel_rfl) hS.out ?_
                  apply Exists.intro
                  refine And.intro (by simp [Act.put, go_sem]; rfl) ?_
                  refine pl_skip (i := 26) rfl (by kernel_rfl) (by kernel_rfl) (by kernel_rfl) (by kernel_rfl) hS.out ?_
                  apply Exists.intro
                  refine And.intro (by simp [Act.put, go_sem]; rfl) ?_
                  refine pl_skip (i := 27) rfl (by kernel_rfl) (by kernel_rfl) (by kernel_rfl) (by kernel_rfl) hS.out ?_
                  apply Exists.intro
                  refine And.intro (by simp [Act.put, go_sem]; rfl) ?_
                  refine pl_skip (i := 28) rfl (by kernel_rfl) (by kernel_rfl) (by kernel_rfl) (by kernel_rfl) hS.out ?_
                  apply Exists.intro
                  refine And.intro (by simp [Act.put, go_sem]; rfl) ?_
                  refine pl_skip (i := 29) rfl (by kernel_rfl) (by kernel_rfl) (by kernel_rfl) (by kernel_rfl) hS.out ?_
                  apply Exists.intro
                  refine And.intro (by simp [Act.put, go_sem]; rfl) ?_
                  refine pl_take (i := 30) 81 rfl rfl rfl (by kernel_rfl) (by kernel_rfl) (by kernel_rfl) (by simp [Act.put]) hS.out ?_
                  apply Exists.intro
                  refine And.intro (fun w' hS' => ?_) ?_
                  · refine wpList_unguard' rfl ?_
                    clear hS'
                    go_wp2
                    first
                      | exact ⟨trivial, rfl⟩
                      | exact rfl
                  refine pl_take (i := 31) 82 rfl rfl rfl (by kernel_rfl) (by kernel_rfl) (by kernel_rfl) (by simp [Act.put]) hS.out ?_
                  apply Exists.intro
                  refine And.intro (fun w' hS' => ?_) ?_
                  · refine wpList_unguard' rfl ?_
                    clear hS'
                    go_wp2
                    first
                      | exact ⟨trivial, rfl⟩
                      | exact rfl
                  refine pl_skip (i := 32) rfl (by kernel_rfl) (by kernel_rfl) (by kernel_rfl) (by kernel_rfl) hS.out ?_
                  apply Exists.intro
                  refine And.intro (by simp [Act.put, go_sem]; rfl) ?_
                  refine pl_skip (i := 33) rfl (by kernel_rfl) (by kernel_rfl) (by kernel_rfl) (by kernel_rfl) hS.out ?_
                  apply Exists.intro
                  refine And.intro (by simp [Act.put, go_sem]; rfl) ?_
                  refine pl_skip (i := 34) rfl (by kernel_rfl) (by kernel_rfl) (by kernel_rfl) (by kernel_rfl) hS.out ?_
                  apply Exists.intro
                  refine And.intro (by simp [Act.put, go_sem]; rfl) ?_
                  refine pl_skip (i := 35) rfl (by kernel_rfl) (by kernel_rfl) (by kernel_rfl) (by kernel_rfl) hS.out ?_
                  apply Exists.intro
                  refine And.intro (by simp [Act.put, go_sem]; rfl) ?_
                  refine pl_skip (i := 36) rfl (by kernel_rfl) (by kernel_rfl) (by kernel_rfl) (by kernel_rfl) hS.out ?_
                  apply Exists.intro
                  refine And.intro (by simp [Act.put, go_sem]; rfl) ?_
                  refine pl_skip (i := 37) rfl (by kernel_rfl) (by kernel_rfl) (by kernel_rfl) (by kernel_rfl) hS.out ?_
                  apply Exists.intro
                  refine And.intro (by simp [Act.put, go_sem]; rfl) ?_
                  refine pl_skip (i := 38) rfl (by kernel_rfl) (by kernel_rfl) (by kernel_rfl) (by kernel_rfl) hS.out ?_
                  apply Exists.intro
                  refine And.intro (by simp [Act.put, go_sem]; rfl) ?_
                  refine pl_skip (i := 39) rfl (by kernel_rfl) (by kernel_rfl) (by kernel_rfl) (by kernel_rfl) hS.out ?_
                  apply Exists.intro
                  refine And.intro (by simp [Act.put, go_sem]; rfl) ?_
                  refine pl_skip (i := 40) rfl (by kernel_rfl) (by kernel_rfl) (by kernel_rfl) (by kernel_rfl) hS.out ?_
                  apply Exists.intro
                  refine And.intro (by simp [Act.put, go_sem]; rfl) ?_
                  refine pl_skip (i := 41) rfl (by kernel_rfl) (by kernel_rfl) (by kernel_rfl) (by kernel_rfl) hS.out ?_
                  apply Exists.intro
                  refine And.intro (by simp [Act.put, go_sem]; rfl) ?_
                  refine pl_skip (i := 42) rfl (by kernel_rfl) (by kernel_rfl) (by kernel_rfl) (by kernel_rfl) hS.out ?_
                  apply Exists.intro
                  refine And.intro (by simp [Act.put, go_sem]; rfl) ?_
                  refine pl_take (i := 43) 94 rfl rfl rfl (by kernel_rfl) (by kernel_rfl) (by kernel_rfl) (by simp [Act.put]) hS.out ?_
                  apply Exists.intro
                  refine And.intro (fun w' hS' => ?_) ?_
                  · refine wpList_unguard' rfl ?_
                    clear hS'
                    go_wp2
                    first
                      | exact ⟨trivial, rfl⟩
                      | exact rfl
                  refine pl_take (i := 44) 95 rfl rfl rfl (by kernel_rfl) (by kernel_rfl) (by kernel_rfl) (by simp [Act.put]) hS.out ?_
                  apply Exists.intro
                  refine And.intro (fun w' hS' => ?_) ?_
                  · clear hS'
                    go_wp2
                    first
                      | exact ⟨trivial, rfl⟩
                      | exact rfl
                  refine pl_done (by kernel_rfl) ?_
                  go_wp2
                  go_ret
                  exact ⟨⟨false, rfl, fun hq => absurd (NQ.out hq) (by
                                  rintro ⟨mo, h1, h2⟩
                                  have h3 := MO.out mo h1
                                  have h4 := ML.out
                                  rw [h3] at h4
                                  rcases h2 with rfl | ⟨b, r', h5, h6, h7⟩
                                  · exact HM0.out h4
                                  · rw [HRC.out] at h5
                                    simp only [List.cons.injEq, St.put.injEq] at h5
                                    exact HQI.out h5.1.1)⟩, BFD.out⟩
        · have HEQ : Hid ((bd.take n1 != br) = true) := Lib.hid (by simpa using heq)
          have HTK := Lib.hid heq
          clear heq
          go_wp2_with fail
          refine pl_start 21 rfl (fun w' => w'.cell? ⟨g7, i, none⟩ = some (.slice a1 n1 c1) ∧ Rd w' 1 (.slice a1 n1 c1) n1 (bvs br) ∧ Rd w' 1 (.slice a3 n3 c3) n3 (bvs bd)) (by kernel_rfl) ?_
          refine pl_take (i := 0) 24 rfl rfl rfl (by kernel_rfl) (by kernel_rfl) (by kernel_rfl) (by simp [Act.put]) hS.out ?_
          apply Exists.intro
          refine And.intro (fun w' hS' => ?_) ?_
          · clear hS'
            go_wp2
            first
              | exact ⟨trivial, rfl⟩
              | exact rfl
          refine pl_take (i := 1) 25 rfl rfl rfl (by kernel_rfl) (by kernel_rfl) (by kernel_rfl) (by simp [Act.put]) hS.out ?_
          apply Exists.intro
          refine And.intro (fun w' hS' => ?_) ?_
          · clear hS'
            go_wp2
            first
              | exact ⟨trivial, rfl⟩
              | exact rfl
          refine pl_take (i := 2) 26 rfl rfl rfl (by kernel_rfl) (by kernel_rfl) (by kernel_rfl) (by simp [Act.put]) hS.out ?_
          apply Exists.intro
          refine And.intro (fun w' hS' => ?_) ?_
          · clear hS'
            go_wp2
            first
              | exact ⟨trivial, rfl⟩
              | exact rfl
          refine pl_take (i := 3) 27 rfl rfl rfl (by kernel_rfl) (by kernel_rfl) (by kernel_rfl) (by simp [Act.put]) hS.out ?_
          apply Exists.intro
          refine And.intro (fun w' hS' => ?_) ?_
          · clear hS'
            go_wp2
            first
              | exact ⟨trivial, rfl⟩
              | exact rfl
          refine pl_take (i := 4) 28 rfl rfl rfl (by kernel_rfl) (by kernel_rfl) (by kernel_rfl) (by simp [Act.put]) hS.out ?_
          apply Exists.intro
          refine And.intro (fun w' hS' => ?_) ?_
          · have hc := hS'.1
            clear hS'
            go_wp2
            first
              | exact ⟨trivial, rfl⟩
              | exact rfl
          refine pl_take (i := 5) 29 rfl rfl rfl (by kernel_rfl) (by kernel_rfl) (by kernel_rfl) (by simp [Act.put]) hS.out ?_
          apply Exists.intro
          refine And.intro (fun w' hS' => ?_) ?_
          · clear hS'
            go_wp2
            first
              | exact ⟨trivial, rfl⟩
              | exact rfl
          refine pl_take (i := 6) 30 rfl rfl rfl (by kernel_rfl) (by kernel_rfl) (by kernel_rfl) (by simp [Act.put]) hS.out ?_
          apply Exists.intro
          refine And.intro (fun w' hS' => ?_) ?_
          · clear hS'
            go_wp2
            first
              | exact ⟨trivial, rfl⟩
              | exact rfl
          refine pl_take (i := 7) 31 rfl rfl rfl (by kernel_rfl) (by kernel_rfl) (by kernel_rfl) (by simp [Act.put]) hS.out ?_
          apply Exists.intro
          refine And.intro (fun w' hS' => ?_) ?_
          · clear hS'
            go_wp2
            first
              | exact ⟨trivial, rfl⟩
              | exact rfl
          refine pl_take (i := 8) 32 rfl rfl rfl (by kernel_rfl) (by kernel_rfl) (by kernel_rfl) (by simp [Act.put]) hS.out ?_
          apply Exists.intro
          refine And.intro (fun w' hS' => ?_) ?_
          · refine wpList_unguard' rfl ?_
            clear hS'
            go_wp2
            first
              | exact ⟨trivial, rfl⟩
              | exact rfl
          refine pl_take (i := 9) 33 rfl rfl rfl (by kernel_rfl) (by kernel_rfl) (by kernel_rfl) (by simp [Act.put]) hS.out ?_
          apply Exists.intro
          refine And.intro (fun w' hS' => ?_) ?_
          · refine wpList_unguard' rfl ?_
            clear hS'
            go_wp2
            first
              | exact ⟨trivial, rfl⟩
              | exact rfl
          refine pl_take (i := 10) 34 rfl rfl rfl (by kernel_rfl) (by kernel_rfl) (by kernel_rfl) (by simp [Act.put]) hS.out ?_
          apply Exists.intro
          refine And.intro (fun w' hS' => ?_) ?_
          · refine wpList_unguard' rfl ?_
            clear hS'
            go_wp2
            first
              | exact ⟨trivial, rfl⟩
              | exact rfl
          refine pl_take (i := 11) 35 rfl rfl rfl (by kernel_rfl) (by kernel_rfl) (by kernel_rfl) (by simp [Act.put]) hS.out ?_
          apply Exists.intro
          refine And.intro (fun w' hS' => ?_) ?_
          · refine wpList_unguard' rfl ?_
            have hc := hS'.1
            clear hS'
            go_wp2
            first
              | exact ⟨trivial, rfl⟩
              | exact rfl
          refine pl_take (i := 12) 36 rfl rfl rfl (by kernel_rfl) (by kernel_rfl) (by kernel_rfl) (by simp [Act.put]) hS.out ?_
          apply Exists.intro
          refine And.intro (fun w' hS' => ?_) ?_
          · refine wpList_unguard' rfl ?_
            clear hS'
            go_wp2
            first
              | exact ⟨trivial, rfl⟩
              | exact rfl
          refine pl_take (i := 13) 37 rfl rfl rfl (by kernel_rfl) (by kernel_rfl) (by kernel_rfl) (by simp [Act.put]) hS.out ?_
          apply Exists.intro
          refine And.intro (fun w' hS' => ?_) ?_
          · refine wpList_unguard' rfl ?_
            clear hS'
            go_wp2
            first
              | exact ⟨trivial, rfl⟩
              | exact rfl
          refine pl_take (i := 14) 38 rfl rfl rfl (by kernel_rfl) (by kernel_rfl) (by kernel_rfl) (by simp [Act.put]) hS.out ?_
          apply Exists.intro
          refine And.intro (fun w' hS' => ?_) ?_
          · refine wpList_unguard' rfl ?_
            have hp := (Rd.pre hS'.2.2 (q := n1) LE.out)
            have hcv := Rd.conv (P := Try.prog) (l := bd.take n1) (by rw [TL.out]; exact hp) 29 9 5 Try.underlying29 Try.underlying5 Try.underlying9
            clear hp
            clear hS'
            go_wp2
            first
              | exact ⟨trivial, rfl⟩
              | exact rfl
          refine pl_take (i := 15) 39 rfl rfl rfl (by kernel_rfl) (by kernel_rfl) (by kernel_rfl) (by simp [Act.put]) hS.out ?_
          apply Exists.intro
          refine And.intro (fun w' hS' => ?_) ?_
          · refine wpList_unguard' rfl ?_
            clear hS'
            go_wp2
            first
              | exact ⟨trivial, rfl⟩
              | exact rfl
          refine pl_take (i := 16) 40 rfl rfl rfl (by kernel_rfl) (by kernel_rfl) (by kernel_rfl) (by simp [Act.put]) hS.out ?_
          apply Exists.intro
          refine And.intro (fun w' hS' => ?_) ?_
          · refine wpList_unguard' rfl ?_
            clear hS'
            go_wp2
            first
              | exact ⟨trivial, rfl⟩
              | exact rfl
          refine pl_take (i := 17) 41 rfl rfl rfl (by kernel_rfl) (by kernel_rfl) (by kernel_rfl) (by simp [Act.put]) hS.out ?_
          apply Exists.intro
          refine And.intro (fun w' hS' => ?_) ?_
          · refine wpList_unguard' rfl ?_
            have hc := hS'.1
            clear hS'
            go_wp2
            first
              | exact ⟨trivial, rfl⟩
              | exact rfl
          refine pl_take (i := 18) 42 rfl rfl rfl (by kernel_rfl) (by kernel_rfl) (by kernel_rfl) (by simp [Act.put]) hS.out ?_
          apply Exists.intro
          refine And.intro (fun w' hS' => ?_) ?_
          · refine wpList_unguard' rfl ?_
            have hcv := Rd.conv (P := Try.prog) (l := br) (by rw [← HN.out.2.2.1]; exact hS'.2.1) 29 9 5 Try.underlying29 Try.underlying5 Try.underlying9
            clear hS'
            go_wp2
            first
              | exact ⟨trivial, rfl⟩
              | exact rfl
          refine pl_take (i := 19) 43 rfl rfl rfl (by kernel_rfl) (by kernel_rfl) (by kernel_rfl) (by simp [Act.put]) hS.out ?_
          apply Exists.intro
          refine And.intro (fun w' hS' => ?_) ?_
          · refine wpList_unguard' rfl ?_
            refine wpList_bin rfl .neq 9 9 (.tmp 38) (.tmp 42) rfl (.bool true) (str_guard _ _ _ _ _ _) (str_neq' _ _ _ _ (by simpa using HEQ.out)) ?_
            clear hS'
            go_wp2
            first
              | exact ⟨trivial, rfl⟩
              | exact rfl
          refine pl_take (i := 20) 44 rfl rfl rfl (by kernel_rfl) (by kernel_rfl) (by kernel_rfl) (by simp [Act.put]) hS.out ?_
          apply Exists.intro
          refine And.intro (fun w' hS' => ?_) ?_
          · clear hS'
            go_wp2
            first
              | exact ⟨trivial, rfl⟩
              | exact rfl
          refine pl_done (by kernel_rfl) ?_
          go_wp2
          go_ret
          exact ⟨⟨false, rfl, fun hq => absurd (NQ.out hq) (by
                      rintro ⟨mo, h1, _⟩
                      apply HTK.out
                      rw [h1, HN.out.2.2.1, List.take_left])⟩, BF.out⟩
    · have ij : ¬ ((i : Int) < 16) := by omega
      clear hi hin
      go_wp2
      go_ret
      exact ⟨⟨true, rfl, fun _ => rfl⟩, B3.out.trans (HB.out.mono B3.out.size)⟩

end Go.Proofs.Ytbbbgpdhdlknjaa
