/- What was put is read so, part by part: the walk. -/
import Derived.Test.YtdljpgihfjpnjaaLd
import Derived.Test.YtdljpgihfjpnjaaMb
import Derived.Deep.DeepCutAuto
import Derived.Test.YtdljpgihfjpnjaaPlan
import Derived.Stop.BytesEq
namespace Go.Proofs.Ytdljpgihfjpnjaa
set_option linter.unusedVariables false
set_option linter.unusedSimpArgs false
open Go.RowKit

theorem rnumber_is (w : World) (r N : Nat) (st st' : Option (List UInt8)) (s : Int) (n : Nat) (h : IsR w r N st) (he : rnum st s = (n, st')) :
    Calls Try.prog 30 #[.pointer (some ⟨r, 0, none⟩), .int .i64 s] w fun e w' => e = .returned (.int .u64 (n : Int)) ∧ IsR w' r N st' ∧ Only r w w' := by
  have := rnumber_any w r N st s h
  rw [he] at this
  exact this

theorem rcount_is (w : World) (r N : Nat) (st st' : Option (List UInt8)) (n : Nat) (h : IsR w r N st) (he : rnum st 2 = (n, st')) :
    Calls Try.prog 32 #[.pointer (some ⟨r, 0, none⟩)] w fun e w' => e = .returned (.int .i64 (n : Int)) ∧ IsR w' r N st' ∧ Only r w w' := by
  have := rcount_any w r N st h
  rw [he] at this
  exact this

theorem rbytes_is (w : World) (r N : Nat) (st st' : Option (List UInt8)) (s : Int) (y : List UInt8) (h : IsR w r N st) (he : rcut st s = (y, st')) :
    Calls Try.prog 31 #[.pointer (some ⟨r, 0, none⟩), .int .i64 s] w fun e w' => ∃ v', e = .returned v' ∧ Rd w' 1 v' y.length (bvs y) ∧ IsR w' r N st' ∧ Only r w w' := by
  have := rbytes_any w r N st s h
  rw [he] at this
  exact this

theorem rblob_is (w : World) (r N : Nat) (st st' : Option (List UInt8)) (y : List UInt8) (h : IsR w r N st) (he : rblob st = (y, st')) :
    Calls Try.prog 27 #[.pointer (some ⟨r, 0, none⟩)] w fun e w' => ∃ v', e = .returned v' ∧ Rd w' 1 v' y.length (bvs y) ∧ IsR w' r N st' ∧ w.grownBy w' (some r) := by
  have := rblob_any' w r N st h
  rw [he] at this
  exact this

theorem rhash_is (w : World) (r N : Nat) (st st' : Option (List UInt8)) (y : List UInt8) (h : IsR w r N st) (he : rcut st 32 = (y, st')) (hy : y.length = 32) :
    Calls Try.prog 33 #[.pointer (some ⟨r, 0, none⟩)] w fun e w' => e = .returned (.agg (bvs y).toArray) ∧ IsR w' r N st' ∧ w.grownBy w' (some r) := by
  have := rhash_any w r N st h
  rw [he] at this
  simp only [hashOf_32 y hy] at this
  exact this

theorem run_size_of {P : Program} {t : TypeId} {n : Nat} (h : (P.info? t).map (·.size) = some n) (w : World) : (sizeOf t).run P w = .ok n w := by
  cases hq : P.info? t with
  | none => simp [hq] at h
  | some i =>
    have : i.size = n := by simpa [hq] using h
    simp [sizeOf, typeInfo, hq, this]

def PS (g : Nat) (v : Value) (s : List UInt8) (w : World) : Prop := w.cell? ⟨g, 3, none⟩ = some v ∧ (convert 25 9 v).run Try.prog w = .ok (.string ⟨s.toArray⟩) w

def PD (a1 a2 : Addr) (v1 v2 : Value) (s1 s2 : List UInt8) (w : World) : Prop :=
  w.cell? a1 = some v1 ∧ (convert 25 9 v1).run Try.prog w = .ok (.string ⟨s1.toArray⟩) w ∧ w.cell? a2 = some v2 ∧ (convert 25 9 v2).run Try.prog w = .ok (.string ⟨s2.toArray⟩) w

theorem same_eq (lb ob l o : List PartD) (h1 : lb = l.map blobD) (h2 : ob = o.map blobD) (hl : Few l) (ho : Few o) (s : Bool) (k : Nat) (hk : k ≤ lb.length)
    (hs1 : s = true → lb.length = ob.length ∧ (lb.map (·.b)).take k = (ob.map (·.b)).take k) (hs2 : s = false → lb.map (·.b) ≠ ob.map (·.b)) (hd : k = lb.length ∨ s = false) : (allB lb == allB ob) = s := by
  have e1 : lb.map (·.b) = l.map (·.b) := by rw [h1, List.map_map]; rfl
  have e2 : ob.map (·.b) = o.map (·.b) := by rw [h2, List.map_map]; rfl
  have hb : ∀ (z : List PartD), Few z → ∀ x ∈ z, x.b.length ≤ 16777216 := fun z hz x hx => Nat.le_trans (Nat.le_trans (mem_le_sum z x hx) hz.2) (by omega)
  have hi := blobs_inj l o (hb l hl) (hb o ho)
  rw [← h1, ← h2, ← e1, ← e2] at hi
  cases s with
  | true =>
    obtain ⟨a, b⟩ := hs1 rfl
    have hk' : k = lb.length := by
      rcases hd with h | h
      · exact h
      · cases h
    rw [List.take_of_length_le (by simp; omega), List.take_of_length_le (by simp; omega)] at b
    simpa using hi.2 b
  | false =>
    simpa using fun h => hs2 rfl (hi.1 h)

theorem At.tail4 {w : World} {b : Nat} {x : PartD} {v : Value} (h : At w b 0 (partCells x v)) : At w b 4 (bvs x.h) := by
  intro j u hj
  have := h (4 + j) u (by rw [partCells, List.getElem?_append_right (by simp)]; simpa using hj)
  simpa using this

theorem hash_eq (w : World) (xs ys : List UInt8) (hx : xs.length = 32) (hy : ys.length = 32) :
    (binOp .eql 30 (.agg (bvs xs).toArray) (.agg (bvs ys).toArray)).run Try.prog w = .ok (.bool (xs == ys)) w :=
  run_eql_bytes w 30 5 32 Try.underlying30 Try.underlying5 (fun w' => run_size_of sizeU8 w') xs ys hx hy

theorem grown_cell {w w' : World} {r : Nat} {a : Addr} (h : w.grownBy w' (some r)) (hlt : a.block < w.heap.size) (hne : a.block ≠ r) : w'.cell? a = w.cell? a :=
  World.cell?_of_block (w := w) (h.block _ hlt (fun e => hne (Option.some.inj e)))

theorem wst_blobs (lb l : List PartD) (h : lb = l.map blobD) (hf : Few lb) (hh : ∀ x ∈ lb, x.h.length = 32) : wst lb = some (allB lb) ∧ (allB lb).length ≤ 1099511527776 := by
  have hok : allOk lb = true := by rw [h]; exact blobs_ok l
  have e1 : wst lb = some (allB lb) := by simp [wst, hok]
  have := wst_len lb hf hh lb.length (allB lb) (by rw [List.take_of_length_le (Nat.le_refl _)]; exact e1)
  exact ⟨e1, by omega⟩

theorem End_any (w : World) (B b : Nat) (st : Option (List UInt8)) (h : IsW w B b st) (hn : ∀ xs, st = some xs → xs.length ≤ 1099511627776) :
    Calls Try.prog 15 #[.pointer (some ⟨b, 0, none⟩)] w fun e w' => ∃ v' n, e = .returned (.tuple #[v', .int .i64 n]) ∧
      ((st = none ∧ n = 2) ∨ ∃ xs, st = some xs ∧ n = 0 ∧ w'.ownsRow w.heap.size 5 1 v' xs.length (bvs xs)) ∧ Below w.heap.size w w' := by
  cases st with
  | none =>
    refine (End_bad w B b h).mono ?_
    rintro e w' ⟨rfl, rfl⟩
    exact ⟨_, _, rfl, .inl ⟨rfl, rfl⟩, Below.refl _ _⟩
  | some xs =>
    refine (End_good w B b xs h (hn xs rfl)).mono ?_
    rintro e w' ⟨v', rfl, h1, h2⟩
    exact ⟨_, _, rfl, .inr ⟨xs, rfl, rfl, h1⟩, h2⟩

set_option maxRecDepth 100000 in
set_option maxHeartbeats 4000000 in
theorem means_any (w : World) (v u : Value) (l o : List PartD) (hl : Sl PartAt 36 w v l) (ho : Sl PartAt 36 w u o) :
    Calls Try.prog 6 #[v, u] w fun e w' => e = .returned (.bool true) ∧ Below w.heap.size w w' := by
  obtain ⟨a, c, rfl⟩ := hl.slice
  obtain ⟨ao, co, rfl⟩ := ho.slice
  have Hl := Lib.hid hl
  have Ho := Lib.hid ho
  clear hl ho
  cases hm : muchB l with
  | true =>
    go_enter Try.func6, Try.ntmps6
    go_wp2_with fail
    refine (known_any _).mono ?_
    rintro e w1 ⟨rfl, b1⟩
    have B1 := Lib.hid b1; clear b1
    go_wp2_with fail
    refine (much_any w1 _ l (Hl.out.fresh PartAt.stays B1.out)).mono ?_
    rintro e w2 ⟨rfl, rfl⟩
    rw [hm]; clear hm
    go_wp2
    go_ret
    exact ⟨rfl, B1.out⟩
  | false =>
    have hfl := Lib.hid (few_of l hm)
    cases hmo : muchB o with
    | true =>
      go_enter Try.func6, Try.ntmps6
      go_wp2_with fail
      refine (known_any _).mono ?_
      rintro e w1 ⟨rfl, b1⟩
      have B1 := Lib.hid b1; clear b1
      go_wp2_with fail
      refine (much_any w1 _ l (Hl.out.fresh PartAt.stays B1.out)).mono ?_
      rintro e w2 ⟨rfl, rfl⟩
      rw [hm]; clear hm
      go_wp2_with fail
      refine (much_any w1 _ o (Ho.out.fresh PartAt.stays B1.out)).mono ?_
      rintro e w2 ⟨rfl, rfl⟩
      rw [hmo]; clear hmo
      go_wp2
      go_ret
      exact ⟨rfl, B1.out⟩
    | false =>
      have hfo := Lib.hid (few_of o hmo)
      go_enter Try.func6, Try.ntmps6
      go_wp2_with fail
      refine (known_any _).mono ?_
      rintro e w1 ⟨rfl, b1⟩
      have B1 := Lib.hid b1; clear b1
      go_wp2_with fail
      refine (much_any w1 _ l (Hl.out.fresh PartAt.stays B1.out)).mono ?_
      rintro e w2 ⟨rfl, rfl⟩
      rw [hm]; clear hm
      go_wp2_with fail
      refine (much_any w1 _ o (Ho.out.fresh PartAt.stays B1.out)).mono ?_
      rintro e w2 ⟨rfl, rfl⟩
      rw [hmo]; clear hmo
      go_wp2_with fail
      refine (lput_any w1 _ l (Hl.out.fresh PartAt.stays B1.out) hfl.out).mono ?_
      rintro e w2 ⟨rfl, hw2, b2⟩
      have B2 : Hid (Below w.heap.size w w2) := B1.out.trans (b2.mono B1.out.size)
      clear b2
      have hh : ∀ x ∈ l, x.h.length = 32 := parts_h Hl.out
      have hlen : Hid (∀ xs, wst l = some xs → xs = allB l ∧ allOk l = true ∧ xs.length ≤ 1099511527776) := by
        intro xs hx
        have := wst_len l hfl.out hh l.length xs (by rw [List.take_of_length_le (Nat.le_refl _)]; exact hx)
        unfold wst at hx
        split at hx
        · rename_i hok
          simp only [Option.some.injEq] at hx
          subst hx
          exact ⟨rfl, by simpa using hok, by omega⟩
        · cases hx
      clear hh
      go_wp2_with fail
      refine (End_any _ _ _ _ hw2 (fun xs hx => by have := (hlen.out xs hx).2.2; omega)).mono ?_
      rintro e w3 ⟨v3, n3, rfl, hcase, b3⟩
      have B3 : Hid (Below w.heap.size w w3) := B2.out.trans (b3.mono B2.out.size)
      have Hcase := Lib.hid hcase
      have hn3 : n3 = 0 ∨ n3 = 2 := by rcases hcase with ⟨_, h⟩ | ⟨_, _, h, _⟩ <;> omega
      have HN := Lib.hid hn3
      clear b3 hw2 hcase hn3
      go_wp2_with fail
      refine (num_any _ _).mono ?_
      rintro e w4 ⟨rfl, rfl⟩
      go_upto_if 35 with fail
      go_cut [4] (fun s4 wx => Below w.heap.size w wx)
      case first =>
        rcases Hcase.out with ⟨_, h3⟩ | ⟨xs, hxs, h3, ho3⟩
        · have hq3 : (n3 == 0) = false := by simp [h3]
          go_wp2
          go_meet
          exact B3.out
        obtain ⟨rfl, hall, hlen3⟩ := hlen.out xs hxs
        subst h3
        have HO := Lib.hid hall
        obtain ⟨a3, c3, rfl⟩ := own_slice ho3
        clear hxs hall
        go_wp2_with fail
        refine (Read_any w3 _ _ (Rd.of_own ho3) (by omega)).mono ?_
        rintro e w4 ⟨r, rfl, hrr, hR, b4⟩
        have B4 : Hid (Below w.heap.size w w4) := B3.out.trans (b4.mono B3.out.size)
        have hrw : w.heap.size ≤ r := Nat.le_trans B3.out.size hrr
        obtain ⟨N, hN⟩ : ∃ N, N = w4.heap.size := ⟨_, rfl⟩
        rw [← hN] at hR
        clear b4 hN
        go_wp2
        go_loopw [8] (fun v8 wr => ∃ k : Nat, k ≤ l.length ∧ v8 = .int .i64 (k : Int) ∧ IsR wr r N (some (allB (l.drop k))) ∧ Below w.heap.size w wr)
          (fun v _ => l.length - (intOf v).toNat)
        case atStart => exact ⟨0, Nat.zero_le _, rfl, by simpa using hR, B4.out⟩
        case round =>
          obtain ⟨k, hk, rfl, hr, hbl⟩ := hrel
          have hsz := hbl.size
          have Hbl := Lib.hid hbl; clear hbl
          by_cases hlt : k < l.length
          · rcases Hl.out with ⟨rfl, _⟩ | ⟨b, off, c', he, hlc, hcm, hx⟩
            · simp at hlt
            simp only [Value.slice.injEq, true_and] at he
            obtain ⟨rfl, rfl⟩ := he
            obtain ⟨h1, h2, vb, h3, h4⟩ := hx k l[k] (by simp [hlt])
            have hxb : l[k].b.length ≤ 20000 := Nat.le_trans (mem_le_sum l _ (List.getElem_mem hlt)) hfl.out.2
            have hxo := allOk_get l HO.out k hlt
            rw [allB_drop l k hlt] at hr
            have hpart := part_read l[k] (allB (l.drop (k + 1))) h2 hxb hxo
            have hat := h4.fresh Hbl.out
            have hrd := h3.fresh Hbl.out
            obtain ⟨x, hx'⟩ : ∃ x, x = l[k] := ⟨_, rfl⟩
            rw [← hx'] at h1 h2 h3 hxb hxo hr hpart hat hrd
            have Hp := Lib.hid hpart
            have hl40 := hfl.out.1
            have H0 := Lib.hid h3
            clear hx' hx h4 hpart
            go_wp2_with (with_reducible refine stopAt 47 ?_)
            refine Stop.go ?_
            refine wpList_load_agg rfl 32 (.tmp 46) rfl ⟨b, off + k * 36, none⟩ rfl (partCells x vb) _ hat.load Try.underlying32 rfl (by rw [partCells_length x vb h2]; exact infoPart) ?_
            go_wp2_with (with_reducible refine stopStore 32 ?_)
            refine Stop.go ?_
            obtain ⟨va, vc, hvb⟩ := hrd.slice
            refine wpList_store_var rfl 32 (.tmp 9) (.tmp 47) rfl wr.heap.size _ rfl _ (partCells x vb) rfl (heap_alloc_new _ _) (by rw [partCells_length x vb h2]; rfl) (partCells_one x vb (by rw [hvb]; rfl)) (by rw [partCells_length x vb h2]; exact infoPart) ?_
            intro w5 hg5 ho5
            subst hvb
            have hb5 : Below wr.heap.size wr w5 := Below.only ((Below.refl _ wr).alloc (Nat.le_refl _) _) ho5 (Nat.le_refl _)
            have hr5 := hr.fresh hb5
            have hrd5 := hrd.fresh hb5
            have H5 : Hid (Below w.heap.size w w5) := Hbl.out.trans (hb5.mono hsz)
            have hat5 := At.block hg5
            have hc0 := hat5.cell0
            have hc1 := hat5.cell1
            have hc2 := hat5.cell2
            have hc3 := hat5.cell3
            have Hat5 := Lib.hid hat5
            have Hg5 := Lib.hid hg5
            have hrlt := hr.lt
            have hg5lt : wr.heap.size < w5.heap.size := lt_of_block hg5
            have hg5ne : wr.heap.size ≠ r := by omega
            clear hat5 hat hrd hb5 hg5 ho5 hr h3
            have Hx := Lib.hid h2; clear h2
            by_cases k1 : x.kind = 1
            · rw [k1] at hc0
              have e1 := Hp.out.1 k1
              have HK := Lib.hid k1; clear k1
              have E1 := Lib.hid e1; clear e1
              go_wp2_with fail
              go_region_held3 (fun w' => w'.cell? ⟨wr.heap.size, 1, none⟩ = some (.int .i64 x.size) ∧ w'.cell? ⟨wr.heap.size, 2, none⟩ = some (.int .u64 (x.n : Int))) (first | assumption | (refine And.intro ?_ ?_ <;> assumption))
                (first
                  | (go_at_call 30; refine (rnumber_is _ r N _ _ x.size x.n ?_ E1.out).mono ?_; exact hr5; rintro e w6 ⟨rfl, h6, o6⟩; have s1 := (grown_cell (w := w5.drew) (a := ⟨wr.heap.size, 1, none⟩) o6.grown hg5lt hg5ne).trans hc1; have s2 := (grown_cell (w := w5.drew) (a := ⟨wr.heap.size, 2, none⟩) o6.grown hg5lt hg5ne).trans hc2))
              have H6 : Hid (Below w.heap.size w w6) := H5.out.drew.trans (grown_below (w := w5.drew) o6.grown hrw (H5.out.size))
              clear o6 hr5
              go_wp2
              go_roundw
              case rel => exact ⟨k + 1, by omega, by go_num, h6, H6.out⟩
              case measure => simp [intOf]; omega
            have q1 : (x.kind == 1) = false := by simp [k1]
            have K1 := Lib.hid k1; clear k1
            by_cases k2 : x.kind = 2
            · rw [k2] at hc0
              have e1 := Hp.out.2.1 k2
              have HK := Lib.hid k2; clear k2
              have E1 := Lib.hid e1; clear e1
              go_wp2_with fail
              have hS0 : PS wr.heap.size (.slice va x.b.length vc) x.b w5.drew := ⟨hc3, Rd.conv (P := Try.prog) (w := w5.drew) hrd5 25 9 5 Try.underlying25 Try.underlying5 Try.underlying9⟩
              refine pl_start 11 rfl (PS wr.heap.size (.slice va x.b.length vc) x.b) (by kernel_rfl) ?_
              refine pl_take (i := 0) 61 rfl rfl rfl (by kernel_rfl) (by kernel_rfl) (by kernel_rfl) (by simp) hS0 ?_
              apply Exists.intro
              refine And.intro (fun w' hS => ?_) ?_
              · have hS1 := hS.1; have hS2 := hS.2
                go_wp2
                exact ⟨trivial, rfl⟩
              refine pl_take (i := 1) 62 rfl rfl rfl (by kernel_rfl) (by kernel_rfl) (by kernel_rfl) (by simp) hS0 ?_
              apply Exists.intro
              refine And.intro (fun w' hS => ?_) ?_
              · have hS1 := hS.1; have hS2 := hS.2
                go_wp2
                exact ⟨trivial, rfl⟩
              refine pl_take (i := 2) 63 rfl rfl rfl (by kernel_rfl) (by kernel_rfl) (by kernel_rfl) (by simp) hS0 ?_
              apply Exists.intro
              refine And.intro (fun w' hS => ?_) ?_
              · have hS1 := hS.1; have hS2 := hS.2
                go_wp2
                exact ⟨trivial, rfl⟩
              refine pl_take (i := 3) 64 rfl rfl rfl (by kernel_rfl) (by kernel_rfl) (by kernel_rfl) (by simp) hS0 ?_
              apply Exists.intro
              refine And.intro (fun w' hS => ?_) ?_
              · have hS1 := hS.1; have hS2 := hS.2
                go_wp2
                exact ⟨trivial, rfl⟩
              refine pl_take (i := 6) 67 rfl rfl rfl (by kernel_rfl) (by kernel_rfl) (by kernel_rfl) (by simp) hS0 ?_
              apply Exists.intro
              refine And.intro (fun w' hS => ?_) ?_
              · have hS1 := hS.1; have hS2 := hS.2
                go_wp2
                exact ⟨trivial, rfl⟩
              refine pl_take (i := 7) 68 rfl rfl rfl (by kernel_rfl) (by kernel_rfl) (by kernel_rfl) (by simp) hS0 ?_
              apply Exists.intro
              refine And.intro (fun w' hS => ?_) ?_
              · have hS1 := hS.1; have hS2 := hS.2
                go_wp2
                exact ⟨trivial, rfl⟩
              refine pl_take (i := 8) 69 rfl rfl rfl (by kernel_rfl) (by kernel_rfl) (by kernel_rfl) (by simp) hS0 ?_
              apply Exists.intro
              refine And.intro (fun w' hS => ?_) ?_
              · have hS1 := hS.1; have hS2 := hS.2
                go_wp2
                exact ⟨trivial, rfl⟩
              refine pl_heavy (i := 4) rfl (by kernel_rfl) ?_
              go_wp2_with fail
              refine (rbytes_is w5.drew r N _ _ (x.b.length : Int) x.b hr5 E1.out).mono ?_
              rintro e w6 ⟨v6, rfl, r6, h6, o6⟩
              have o7 : w5.drew.grownBy w6 (some r) := o6.grown
              have H6 : Hid (Below w.heap.size w w6) := H5.out.drew.trans (grown_below (w := w5.drew) o7 hrw (H5.out.size))
              have hS6 : PS wr.heap.size (.slice va x.b.length vc) x.b w6 := ⟨(grown_cell (w := w5.drew) (a := ⟨wr.heap.size, 3, none⟩) o7 hg5lt hg5ne).trans hc3, Rd.conv (P := Try.prog) (H0.out.fresh H6.out) 25 9 5 Try.underlying25 Try.underlying5 Try.underlying9⟩
              have hcv6 := Rd.conv (P := Try.prog) r6 25 9 5 Try.underlying25 Try.underlying5 Try.underlying9
              clear o6 o7 hr5
              go_wp2
              refine And.intro hS6 ?_
              refine pl_heavy (i := 5) rfl (by kernel_rfl) ?_
              go_wp2
              refine And.intro hS6 ?_
              refine pl_heavy (i := 9) rfl (by kernel_rfl) ?_
              go_wp2
              refine And.intro hS6 ?_
              refine pl_heavy (i := 10) rfl (by kernel_rfl) ?_
              go_wp2
              refine And.intro hS6 ?_
              refine pl_done (by kernel_rfl) ?_
              go_wp2
              go_roundw
              case rel => exact ⟨k + 1, by omega, by go_num, h6, H6.out⟩
              case measure => simp [intOf]; omega
            have q2 : (x.kind == 2) = false := by simp [k2]
            have K2 := Lib.hid k2; clear k2
            by_cases k3 : x.kind = 3
            · rw [k3] at hc0
              have e1 := Hp.out.2.2.1 k3
              have HK := Lib.hid k3; clear k3
              have E1 := Lib.hid e1; clear e1
              go_wp2_with fail
              have hS0 : PS wr.heap.size (.slice va x.b.length vc) x.b w5.drew := ⟨hc3, Rd.conv (P := Try.prog) (w := w5.drew) hrd5 25 9 5 Try.underlying25 Try.underlying5 Try.underlying9⟩
              refine pl_start 8 rfl (PS wr.heap.size (.slice va x.b.length vc) x.b) (by kernel_rfl) ?_
              refine pl_take (i := 0) 73 rfl rfl rfl (by kernel_rfl) (by kernel_rfl) (by kernel_rfl) (by simp) hS0 ?_
              apply Exists.intro
              refine And.intro (fun w' hS => ?_) ?_
              · have hS1 := hS.1; have hS2 := hS.2
                go_wp2
                exact ⟨trivial, rfl⟩
              refine pl_take (i := 3) 76 rfl rfl rfl (by kernel_rfl) (by kernel_rfl) (by kernel_rfl) (by simp) hS0 ?_
              apply Exists.intro
              refine And.intro (fun w' hS => ?_) ?_
              · have hS1 := hS.1; have hS2 := hS.2
                go_wp2
                exact ⟨trivial, rfl⟩
              refine pl_take (i := 4) 77 rfl rfl rfl (by kernel_rfl) (by kernel_rfl) (by kernel_rfl) (by simp) hS0 ?_
              apply Exists.intro
              refine And.intro (fun w' hS => ?_) ?_
              · have hS1 := hS.1; have hS2 := hS.2
                go_wp2
                exact ⟨trivial, rfl⟩
              refine pl_take (i := 5) 78 rfl rfl rfl (by kernel_rfl) (by kernel_rfl) (by kernel_rfl) (by simp) hS0 ?_
              apply Exists.intro
              refine And.intro (fun w' hS => ?_) ?_
              · have hS1 := hS.1; have hS2 := hS.2
                go_wp2
                exact ⟨trivial, rfl⟩
              refine pl_heavy (i := 1) rfl (by kernel_rfl) ?_
              go_wp2_with fail
              refine (rblob_is w5.drew r N _ _ x.b hr5 E1.out).mono ?_
              rintro e w6 ⟨v6, rfl, r6, h6, o6⟩
              have o7 : w5.drew.grownBy w6 (some r) := o6
              have H6 : Hid (Below w.heap.size w w6) := H5.out.drew.trans (grown_below (w := w5.drew) o7 hrw (H5.out.size))
              have hS6 : PS wr.heap.size (.slice va x.b.length vc) x.b w6 := ⟨(grown_cell (w := w5.drew) (a := ⟨wr.heap.size, 3, none⟩) o7 hg5lt hg5ne).trans hc3, Rd.conv (P := Try.prog) (H0.out.fresh H6.out) 25 9 5 Try.underlying25 Try.underlying5 Try.underlying9⟩
              have hcv6 := Rd.conv (P := Try.prog) r6 25 9 5 Try.underlying25 Try.underlying5 Try.underlying9
              clear o6 o7 hr5
              go_wp2
              refine And.intro hS6 ?_
              refine pl_heavy (i := 2) rfl (by kernel_rfl) ?_
              go_wp2
              refine And.intro hS6 ?_
              refine pl_heavy (i := 6) rfl (by kernel_rfl) ?_
              go_wp2
              refine And.intro hS6 ?_
              refine pl_heavy (i := 7) rfl (by kernel_rfl) ?_
              go_wp2
              refine And.intro hS6 ?_
              refine pl_done (by kernel_rfl) ?_
              go_wp2
              go_roundw
              case rel => exact ⟨k + 1, by omega, by go_num, h6, H6.out⟩
              case measure => simp [intOf]; omega
            have q3 : (x.kind == 3) = false := by simp [k3]
            have K3 := Lib.hid k3; clear k3
            by_cases k4 : x.kind = 4
            · rw [k4] at hc0
              obtain ⟨m, hm, e1⟩ := Hp.out.2.2.2.1 k4
              have HK := Lib.hid k4; clear k4
              have E1 := Lib.hid e1; clear e1
              rw [hm] at hc1
              have Hm := Lib.hid hm; clear hm
              go_wp2_with fail
              go_region_held3 (fun w' => w'.cell? ⟨wr.heap.size, 1, none⟩ = some (.int .i64 (m : Int))) (first | assumption)
                (first
                  | (go_at_call 32; refine (rcount_is _ r N _ _ m ?_ E1.out).mono ?_; exact hr5; rintro e w6 ⟨rfl, h6, o6⟩; have s3 := (grown_cell (w := w5.drew) (a := ⟨wr.heap.size, 1, none⟩) o6.grown hg5lt hg5ne).trans hc1))
              all_goals
                have H6 : Hid (Below w.heap.size w w6) := H5.out.drew.trans (grown_below (w := w5.drew) o6.grown hrw (H5.out.size))
                clear o6 hr5
                go_wp2
                go_roundw
                case rel => exact ⟨k + 1, by omega, by go_num, h6, H6.out⟩
                case measure => simp [intOf]; omega
            have q4 : (x.kind == 4) = false := by simp [k4]
            have K4 := Lib.hid k4; clear k4
            by_cases k5 : x.kind = 5
            · rw [k5] at hc0
              have e1 := Hp.out.2.2.2.2.1 k5
              have HK := Lib.hid k5; clear k5
              have E1 := Lib.hid e1; clear e1
              go_wp2_with fail
              refine pl_start 6 rfl (fun w' => At w' wr.heap.size 4 (bvs x.h)) (by kernel_rfl) ?_
              have hS0 : At w5.drew wr.heap.size 4 (bvs x.h) := At.tail4 Hat5.out
              refine pl_take (i := 0) 89 rfl rfl rfl (by kernel_rfl) (by kernel_rfl) (by kernel_rfl) (by simp) hS0 ?_
              apply Exists.intro
              refine And.intro (fun w' hS => ?_) ?_
              · skip
                go_wp2
                exact ⟨trivial, rfl⟩
              refine pl_take (i := 2) 91 rfl rfl rfl (by kernel_rfl) (by kernel_rfl) (by kernel_rfl) (by simp) hS0 ?_
              apply Exists.intro
              refine And.intro (fun w' hS => ?_) ?_
              · skip
                go_wp2
                exact ⟨trivial, rfl⟩
              refine pl_take (i := 3) 92 rfl rfl rfl (by kernel_rfl) (by kernel_rfl) (by kernel_rfl) (by simp) hS0 ?_
              apply Exists.intro
              refine And.intro (fun w' hS => ?_) ?_
              · refine wpList_load_agg rfl 30 (.tmp 91) rfl ⟨wr.heap.size, 4, none⟩ rfl (bvs x.h) _ (At.load hS) Try.underlying30 rfl (by rw [bvs_length, Hx.out]; exact infoHash) ?_
                go_wp2
                exact ⟨trivial, rfl⟩
              refine pl_heavy (i := 1) rfl (by kernel_rfl) ?_
              go_wp2_with fail
              refine (rhash_is w5.drew r N _ _ x.h hr5 E1.out Hx.out).mono ?_
              rintro e w6 ⟨rfl, h6, o6⟩
              have H6 : Hid (Below w.heap.size w w6) := H5.out.drew.trans (grown_below (w := w5.drew) o6 hrw (H5.out.size))
              have hS6 : Hid (At w6 wr.heap.size 4 (bvs x.h)) := fun j u hj => (grown_cell (w := w5.drew) (a := ⟨wr.heap.size, 4 + j, none⟩) o6 hg5lt hg5ne).trans (hS0 j u hj)
              have heq6 := hash_eq w6 x.h x.h Hx.out Hx.out
              simp only [beq_self_eq_true] at heq6
              clear o6 hr5
              go_wp2
              refine And.intro hS6.out ?_
              refine pl_heavy (i := 4) rfl (by kernel_rfl) ?_
              refine wpList_bin rfl .eql 30 30 (.tmp 90) (.tmp 92) rfl (.bool true) (eqGuard_agg _ _ _ _ _ _ _ (by kernel_rfl)) heq6 ?_
              go_wp2
              refine And.intro hS6.out ?_
              refine pl_heavy (i := 5) rfl (by kernel_rfl) ?_
              go_wp2
              refine And.intro hS6.out ?_
              refine pl_done (by kernel_rfl) ?_
              go_wp2
              go_roundw
              case rel => exact ⟨k + 1, by omega, by go_num, h6, H6.out⟩
              case measure => simp [intOf]; omega
            have q5 : (x.kind == 5) = false := by simp [k5]
            have K5 := Lib.hid k5; clear k5
            have e1 := Hp.out.2.2.2.2.2 K1.out K2.out K3.out K4.out K5.out
            rw [e1, List.nil_append] at hr5
            have E1 := Lib.hid e1; clear e1
            go_wp2
            go_roundw
            case rel => exact ⟨k + 1, by omega, by go_num, hr5, H5.out⟩
            case measure => simp [intOf]; omega
          · have hkl : k = l.length := by omega
            subst hkl
            rw [List.drop_of_length_le (Nat.le_refl _)] at hr
            go_wp2_with fail
            refine (rend_any wr r N _ hr).mono ?_
            rintro e w6 ⟨rfl, rfl⟩
            rw [show rend (some (allB [])) = 0 from rfl]
            go_wp2_with fail
            refine (num_any _ _).mono ?_
            rintro e w6 ⟨rfl, rfl⟩
            go_wp2
            go_meet
            exact Hbl.out
      case rest =>
        go_wp2_with fail
        have Hc := Lib.hid hcut; clear hcut
        refine (blobs_any wc _ l (Hl.out.fresh PartAt.stays Hc.out) hfl.out.1).mono ?_
        rintro e x1 ⟨p, rfl, hp, d1⟩
        have D1 : Hid (Below w.heap.size w x1) := Hc.out.trans (d1.mono Hc.out.size)
        clear d1
        obtain ⟨lb, hlb⟩ : ∃ lb, lb = l.map blobD := ⟨_, rfl⟩
        have hfb : Few lb := by rw [hlb]; exact blobs_few l hfl.out
        rw [← hlb] at hp
        have Hlb := Lib.hid hlb; clear hlb
        have Hfb := Lib.hid hfb; clear hfb
        obtain ⟨ap, cp, rfl⟩ := hp.slice
        have Hp1 := Lib.hid hp; clear hp
        go_wp2_with fail
        refine (blobs_any x1 _ o (Ho.out.fresh PartAt.stays D1.out) hfo.out.1).mono ?_
        rintro e x2 ⟨q, rfl, hq, d2⟩
        have D2 : Hid (Below w.heap.size w x2) := D1.out.trans (d2.mono D1.out.size)
        have Hp2 := Lib.hid (Hp1.out.fresh PartAt.stays d2)
        clear d2
        obtain ⟨ob, hob⟩ : ∃ ob, ob = o.map blobD := ⟨_, rfl⟩
        have hgb : Few ob := by rw [hob]; exact blobs_few o hfo.out
        rw [← hob] at hq
        have Hob := Lib.hid hob; clear hob
        have Hgb := Lib.hid hgb; clear hgb
        obtain ⟨aq, cq, rfl⟩ := hq.slice
        have Hq2 := Lib.hid hq; clear hq
        go_wp2_with fail
        refine (lput_any x2 _ lb Hp2.out Hfb.out).mono ?_
        rintro e x3 ⟨rfl, i3, d3⟩
        have D3 : Hid (Below w.heap.size w x3) := D2.out.trans (d3.mono D2.out.size)
        have Hp3 := Lib.hid (Hp2.out.fresh PartAt.stays d3)
        have Hq3 := Lib.hid (Hq2.out.fresh PartAt.stays d3)
        clear d3
        have hbl := Lib.hid (wst_blobs lb l Hlb.out Hfb.out (parts_h Hp2.out))
        have hbo := Lib.hid (wst_blobs ob o Hob.out Hgb.out (parts_h Hq2.out))
        rw [hbl.out.1] at i3
        go_wp2_with fail
        refine (End_good x3 _ _ _ i3 (by have := hbl.out.2; omega)).mono ?_
        rintro e x4 ⟨vc, rfl, hoc, d4⟩
        have D4 : Hid (Below w.heap.size w x4) := D3.out.trans (d4.mono D3.out.size)
        have Hp4 := Lib.hid (Hp3.out.fresh PartAt.stays d4)
        have Hq4 := Lib.hid (Hq3.out.fresh PartAt.stays d4)
        have Hrc := Lib.hid (Rd.of_own hoc)
        clear d4 hoc i3
        go_wp2_with fail
        refine (lput_any x4 _ ob Hq4.out Hgb.out).mono ?_
        rintro e x5 ⟨rfl, i5, d5⟩
        have D5 : Hid (Below w.heap.size w x5) := D4.out.trans (d5.mono D4.out.size)
        have Hp5 := Lib.hid (Hp4.out.fresh PartAt.stays d5)
        have Hq5 := Lib.hid (Hq4.out.fresh PartAt.stays d5)
        have Hrc5 := Lib.hid (Hrc.out.fresh d5)
        clear d5
        rw [hbo.out.1] at i5
        go_wp2_with fail
        refine (End_good x5 _ _ _ i5 (by have := hbo.out.2; omega)).mono ?_
        rintro e x6 ⟨vd, rfl, hod, d6⟩
        have D6 : Hid (Below w.heap.size w x6) := D5.out.trans (d6.mono D5.out.size)
        have Hp6 := Lib.hid (Hp5.out.fresh PartAt.stays d6)
        have Hq6 := Lib.hid (Hq5.out.fresh PartAt.stays d6)
        have Hrc6 := Lib.hid (Hrc5.out.fresh d6)
        have Hrd6 := Lib.hid (Rd.of_own hod)
        clear d6 hod i5
        clear Hp1 Hp2 Hp3 Hp4 Hp5 Hq2 Hq3 Hq4 Hq5 Hrc Hrc5 D1 D2 D3 D4 D5
        go_wp2_with fail
        go_loopw [17, 18] (fun v17 v18 wr => ∃ (k : Nat) (s : Bool), k ≤ lb.length ∧ v18 = .int .i64 (k : Int) ∧ v17 = .bool s ∧ (s = true → lb.length = ob.length ∧ (lb.map (·.b)).take k = (ob.map (·.b)).take k) ∧ (s = false → lb.map (·.b) ≠ ob.map (·.b)) ∧ Below x6.heap.size x6 wr)
          (fun _ v _ => lb.length - (intOf v).toNat)
        case atStart =>
          refine ⟨0, _, Nat.zero_le _, rfl, rfl, ?_, ?_, Below.refl _ _⟩
          · intro h; exact ⟨by simp at h; omega, by simp⟩
          · intro h e
            have := congrArg List.length e
            simp at this h
            omega
        case round =>
          obtain ⟨k, s, hk, rfl, rfl, hs1, hs2, hbl⟩ := hrel
          have Hbl := Lib.hid hbl; clear hbl
          have Hs1 := Lib.hid hs1; clear hs1
          have Hs2 := Lib.hid hs2; clear hs2
          by_cases hrun : k < lb.length ∧ s = true
          · obtain ⟨hlt, rfl⟩ := hrun
            obtain ⟨hle, htk⟩ := Hs1.out rfl
            have hlt2 : k < ob.length := by omega
            have hb40 := Hfb.out.1
            have Hle := Lib.hid hle; clear hle
            have Htk := Lib.hid htk; clear htk
            rcases Hp6.out.fresh PartAt.stays Hbl.out with ⟨rfl, h0⟩ | ⟨b1, off1, c1, he1, _, _, hx1⟩
            · simp at hlt
            rcases Hq6.out.fresh PartAt.stays Hbl.out with ⟨rfl, h0⟩ | ⟨b2, off2, c2, he2, _, _, hx2⟩
            · simp at hlt2
            simp only [Value.slice.injEq, true_and] at he1 he2
            obtain ⟨rfl, rfl⟩ := he1
            obtain ⟨rfl, rfl⟩ := he2
            obtain ⟨_, _, v1, hr1, hc1⟩ := hx1 k lb[k] (by simp [hlt])
            obtain ⟨_, _, v2, hr2, hc2⟩ := hx2 k ob[k] (by simp [hlt2])
            obtain ⟨x, hx'⟩ : ∃ x, x = lb[k] := ⟨_, rfl⟩
            obtain ⟨y, hy'⟩ : ∃ y, y = ob[k] := ⟨_, rfl⟩
            rw [← hx'] at hr1 hc1
            rw [← hy'] at hr2 hc2
            have Hx := Lib.hid hx'; clear hx'
            have Hy := Lib.hid hy'; clear hy'
            have hS0 : PD ⟨b1, off1 + k * 36 + 3, none⟩ ⟨b2, off2 + k * 36 + 3, none⟩ v1 v2 x.b y.b wr.drew := ⟨hc1.cell3, Rd.conv (P := Try.prog) (w := wr.drew) hr1 25 9 5 Try.underlying25 Try.underlying5 Try.underlying9, hc2.cell3, Rd.conv (P := Try.prog) (w := wr.drew) hr2 25 9 5 Try.underlying25 Try.underlying5 Try.underlying9⟩
            clear hx1 hx2 hc1 hc2 hr1 hr2
            go_wp2_with fail
            refine pl_start 14 rfl (PD ⟨b1, off1 + k * 36 + 3, none⟩ ⟨b2, off2 + k * 36 + 3, none⟩ v1 v2 x.b y.b) (by kernel_rfl) ?_
            refine pl_take (i := 0) 130 rfl rfl rfl (by kernel_rfl) (by kernel_rfl) (by kernel_rfl) (by simp) hS0 ?_
            apply Exists.intro
            refine And.intro (fun w' hS => ?_) ?_
            · have hS1 := hS.1; have hS2 := hS.2.1; have hS3 := hS.2.2.1; have hS4 := hS.2.2.2
              go_wp2
              exact ⟨trivial, rfl⟩
            refine pl_take (i := 1) 131 rfl rfl rfl (by kernel_rfl) (by kernel_rfl) (by kernel_rfl) (by simp) hS0 ?_
            apply Exists.intro
            refine And.intro (fun w' hS => ?_) ?_
            · have hS1 := hS.1; have hS2 := hS.2.1; have hS3 := hS.2.2.1; have hS4 := hS.2.2.2
              go_wp2
              exact ⟨trivial, rfl⟩
            refine pl_take (i := 2) 132 rfl rfl rfl (by kernel_rfl) (by kernel_rfl) (by kernel_rfl) (by simp) hS0 ?_
            apply Exists.intro
            refine And.intro (fun w' hS => ?_) ?_
            · have hS1 := hS.1; have hS2 := hS.2.1; have hS3 := hS.2.2.1; have hS4 := hS.2.2.2
              go_wp2
              exact ⟨trivial, rfl⟩
            refine pl_take (i := 3) 133 rfl rfl rfl (by kernel_rfl) (by kernel_rfl) (by kernel_rfl) (by simp) hS0 ?_
            apply Exists.intro
            refine And.intro (fun w' hS => ?_) ?_
            · have hS1 := hS.1; have hS2 := hS.2.1; have hS3 := hS.2.2.1; have hS4 := hS.2.2.2
              go_wp2
              exact ⟨trivial, rfl⟩
            refine pl_take (i := 4) 134 rfl rfl rfl (by kernel_rfl) (by kernel_rfl) (by kernel_rfl) (by simp) hS0 ?_
            apply Exists.intro
            refine And.intro (fun w' hS => ?_) ?_
            · have hS1 := hS.1; have hS2 := hS.2.1; have hS3 := hS.2.2.1; have hS4 := hS.2.2.2
              go_wp2
              exact ⟨trivial, rfl⟩
            refine pl_take (i := 5) 135 rfl rfl rfl (by kernel_rfl) (by kernel_rfl) (by kernel_rfl) (by simp) hS0 ?_
            apply Exists.intro
            refine And.intro (fun w' hS => ?_) ?_
            · have hS1 := hS.1; have hS2 := hS.2.1; have hS3 := hS.2.2.1; have hS4 := hS.2.2.2
              go_wp2
              exact ⟨trivial, rfl⟩
            refine pl_take (i := 6) 136 rfl rfl rfl (by kernel_rfl) (by kernel_rfl) (by kernel_rfl) (by simp) hS0 ?_
            apply Exists.intro
            refine And.intro (fun w' hS => ?_) ?_
            · have hS1 := hS.1; have hS2 := hS.2.1; have hS3 := hS.2.2.1; have hS4 := hS.2.2.2
              go_wp2
              exact ⟨trivial, rfl⟩
            refine pl_take (i := 7) 137 rfl rfl rfl (by kernel_rfl) (by kernel_rfl) (by kernel_rfl) (by simp) hS0 ?_
            apply Exists.intro
            refine And.intro (fun w' hS => ?_) ?_
            · have hS1 := hS.1; have hS2 := hS.2.1; have hS3 := hS.2.2.1; have hS4 := hS.2.2.2
              go_wp2
              exact ⟨trivial, rfl⟩
            refine pl_take (i := 8) 138 rfl rfl rfl (by kernel_rfl) (by kernel_rfl) (by kernel_rfl) (by simp) hS0 ?_
            apply Exists.intro
            refine And.intro (fun w' hS => ?_) ?_
            · have hS1 := hS.1; have hS2 := hS.2.1; have hS3 := hS.2.2.1; have hS4 := hS.2.2.2
              go_wp2
              exact ⟨trivial, rfl⟩
            refine pl_take (i := 9) 139 rfl rfl rfl (by kernel_rfl) (by kernel_rfl) (by kernel_rfl) (by simp) hS0 ?_
            apply Exists.intro
            refine And.intro (fun w' hS => ?_) ?_
            · have hS1 := hS.1; have hS2 := hS.2.1; have hS3 := hS.2.2.1; have hS4 := hS.2.2.2
              go_wp2
              exact ⟨trivial, rfl⟩
            refine pl_take (i := 10) 140 rfl rfl rfl (by kernel_rfl) (by kernel_rfl) (by kernel_rfl) (by simp) hS0 ?_
            apply Exists.intro
            refine And.intro (fun w' hS => ?_) ?_
            · have hS1 := hS.1; have hS2 := hS.2.1; have hS3 := hS.2.2.1; have hS4 := hS.2.2.2
              go_wp2
              exact ⟨trivial, rfl⟩
            refine pl_take (i := 11) 141 rfl rfl rfl (by kernel_rfl) (by kernel_rfl) (by kernel_rfl) (by simp) hS0 ?_
            apply Exists.intro
            refine And.intro (fun w' hS => ?_) ?_
            · have hS1 := hS.1; have hS2 := hS.2.1; have hS3 := hS.2.2.1; have hS4 := hS.2.2.2
              go_wp2
              exact ⟨trivial, rfl⟩
            refine pl_take (i := 12) 142 rfl rfl rfl (by kernel_rfl) (by kernel_rfl) (by kernel_rfl) (by simp) hS0 ?_
            apply Exists.intro
            refine And.intro (fun w' hS => ?_) ?_
            · have hS1 := hS.1; have hS2 := hS.2.1; have hS3 := hS.2.2.1; have hS4 := hS.2.2.2
              go_wp2
              exact ⟨trivial, rfl⟩
            refine pl_take (i := 13) 17 rfl rfl rfl (by kernel_rfl) (by kernel_rfl) (by kernel_rfl) (by simp) hS0 ?_
            apply Exists.intro
            refine And.intro (fun w' hS => ?_) ?_
            · have hS1 := hS.1; have hS2 := hS.2.1; have hS3 := hS.2.2.1; have hS4 := hS.2.2.2
              go_wp2
              exact ⟨trivial, rfl⟩
            refine pl_done (by kernel_rfl) ?_
            go_wp2
            go_roundw
            case rel =>
              refine ⟨k + 1, x.b == y.b, by omega, by go_num, ?_, ?_, ?_, Hbl.out.drew⟩
              · rfl
              · intro h
                refine ⟨Hle.out, ?_⟩
                have e := eq_of_beq h
                rw [List.take_add_one, List.take_add_one, Htk.out, List.getElem?_map, List.getElem?_map, List.getElem?_eq_getElem hlt, List.getElem?_eq_getElem hlt2]
                simp only [Option.map_some]
                rw [← Hx.out, ← Hy.out, e]
              · intro h e
                have e1 := congrArg (fun z => z[k]?) e
                simp only [List.getElem?_map, List.getElem?_eq_getElem hlt, List.getElem?_eq_getElem hlt2, Option.map_some, Option.some.injEq] at e1
                rw [← Hx.out, ← Hy.out] at e1
                rw [e1] at h; simp at h
            case measure => simp [intOf]; omega
          · have hcv1 := Rd.conv (P := Try.prog) (Hrc6.out.fresh Hbl.out) 25 9 5 Try.underlying25 Try.underlying5 Try.underlying9
            have hcv2 := Rd.conv (P := Try.prog) (Hrd6.out.fresh Hbl.out) 25 9 5 Try.underlying25 Try.underlying5 Try.underlying9
            have hd : k = lb.length ∨ s = false := by
              rcases Nat.lt_or_ge k lb.length with h | h
              · right
                cases s with
                | true => exact absurd ⟨h, rfl⟩ hrun
                | false => rfl
              · left; omega
            have hfin : Hid ((allB lb == allB ob) = s) := same_eq lb ob l o Hlb.out Hob.out hfl.out hfo.out s k hk Hs1.out Hs2.out hd
            clear hd
            by_cases hlt : k < lb.length
            · have hsf : s = false := by cases s with
                | true => exact absurd ⟨hlt, rfl⟩ hrun
                | false => rfl
              subst hsf
              go_wp2
              go_ret
              refine ⟨ret_bool ?_, D6.out.trans (Hbl.out.mono D6.out.size)⟩
              have := hfin.out
              first | exact this | simp at this; simp [this] 
            · go_wp2
              go_ret
              refine ⟨ret_bool ?_, D6.out.trans (Hbl.out.mono D6.out.size)⟩
              have := hfin.out
              first | exact this | simp [this] 
end Go.Proofs.Ytdljpgihfjpnjaa
