/- The reference's Much of transactions: it says something. -/
import Derived.Test.YtkbahhnjoidhcaaXj
namespace Go.Proofs.Ytkbahhnjoidhcaa
set_option linter.unusedVariables false
set_option linter.unusedSimpArgs false
open Go.RowKit

theorem cell_off {w : World} {ad : Addr} {j : Nat} {u : Value} (h : w.cell? (ad.add (j + 1)) = some u) : w.cell? ⟨ad.block, ad.off + (j + 1), none⟩ = some u := by
  rwa [Addr.add_succ'] at h

/-- It ends with a Boolean. -/
def IsB (e : Ending) : Prop := ∃ B : Bool, e = .returned (.bool B)

set_option maxRecDepth 100000 in
set_option maxHeartbeats 4000000 in
theorem much5_any (F : Nat → Prop) (w : World) (v : Value) (l : List TxD) (m : Int) (h : Txs F w v l) :
    Calls Try.prog 14 #[v, .int .i64 m] w fun e w' => IsB e ∧ Below w.heap.size w w' := by
  obtain ⟨a0, c0, rfl⟩ := h.slice
  obtain ⟨N, hN⟩ : ∃ N, N = l.length := ⟨_, rfl⟩
  obtain ⟨us, hlu, hru, heu⟩ := h
  rw [← hN] at hlu hru
  rw [← hN]
  have bN' : (N : Int) ≤ 9223372036854775807 := rd_small hru.1
  have HI := Lib.hid hru.1
  have HE := Lib.hid heu
  have HL := Lib.hid (And.intro hN hlu)
  clear hN hlu hru heu
  go_enter Try.func14, Try.ntmps14
  go_wp2
  go_loopw [5, 6, 7] (fun v5 v6 v7 wr => Below w.heap.size w wr ∧ ∃ (k : Nat) (n : Int), k ≤ N ∧ v6 = .int .i64 (k : Int) ∧ v5 = .int .i64 n)
    (fun _ v _ _ => N - (RowKit.intOf v).toNat)
  case atStart => exact ⟨Below.refl _ _, 0, 0, Nat.zero_le _, rfl, rfl⟩
  case round =>
    obtain ⟨hb, k, n, hk, rfl, rfl⟩ := hrel
    have HB := Lib.hid hb
    clear hb
    by_cases hlt : k < N
    · by_cases hm : (k : Int) ≤ m
      · obtain ⟨x, hx⟩ : ∃ z, l[k]? = some z := ⟨_, List.getElem?_eq_getElem (by rw [← HL.out.1]; exact hlt)⟩
        obtain ⟨u, hu⟩ : ∃ z, us[k]? = some z := ⟨_, List.getElem?_eq_getElem (by rw [HL.out.2]; exact hlt)⟩
        obtain ⟨ad, c, he⟩ := rd_some HI.out (by omega)
        simp only [Value.slice.injEq, true_and] at he
        obtain ⟨rfl, rfl⟩ := he
        have hz : (l.zip us)[k]? = some (x, u) := by rw [List.getElem?_zip_eq_some]; exact ⟨hx, hu⟩
        have he := HE.out k x u hx hu
        obtain ⟨u1, u2⟩ := u
        obtain ⟨a1, c1, e1⟩ := he.1.slice
        change u1 = _ at e1
        subst e1
        obtain ⟨a2, c2, e2⟩ := he.2.slice
        change u2 = _ at e2
        subst e2
        obtain ⟨K, hK⟩ : ∃ K, K = x.ins.length := ⟨_, rfl⟩
        obtain ⟨L, hL⟩ : ∃ L, L = x.outs.length := ⟨_, rfl⟩
        rw [← hK] at he hz
        rw [← hL] at he hz
        obtain ⟨vs, hlv, hokv, hrv, hev⟩ := he.1
        rw [← hK] at hlv hrv
        change RdF F w 34 (.slice a1 K c1) K _ at hrv
        have bK' : (K : Int) ≤ 9223372036854775807 := rd_small hrv.1
        have HZ := Lib.hid hz
        have HV := Lib.hid (And.intro hrv.1 (And.intro hlv (And.intro hK (And.intro hokv hev))))
        have HK := Lib.hid hlt
        have ik : (k : Int) < (N : Int) := by omega
        clear hx hu hz he hlt hk hK hL hlv hokv hrv hev
        have hS : Hid (Rd wr.drew 3 (.slice (some ad) N c0) N ((l.zip us).flatMap txC)) := Lib.hid (HI.out.fresh HB.out.drew)
        go_wp2_with fail
        refine pl_start 16 rfl (fun w' => Rd w' 3 (.slice (some ad) N c0) N ((l.zip us).flatMap txC)) (by kernel_rfl) ?_
        obtain ⟨w2, hw2⟩ : ∃ w2, w2 = wr.drew := ⟨_, rfl⟩
        have B2 : Hid (Below w.heap.size w w2) := Lib.hid (by rw [hw2]; exact HB.out.drew)
        rw [← hw2] at hS ⊢
        clear hw2
        refine pl_take (i := 0) 19 rfl rfl rfl (by kernel_rfl) (by kernel_rfl) (by kernel_rfl) (by simp [Act.put]) hS.out ?_
        apply Exists.intro
        refine And.intro (fun w' hS' => ?_) ?_
        · go_wp2
          first
            | exact ⟨trivial, rfl⟩
            | exact rfl
        refine pl_take (i := 1) 20 rfl rfl rfl (by kernel_rfl) (by kernel_rfl) (by kernel_rfl) (by simp [Act.put]) hS.out ?_
        apply Exists.intro
        refine And.intro (fun w' hS' => ?_) ?_
        · go_wp2
          first
            | exact ⟨trivial, rfl⟩
            | exact rfl
        refine pl_take (i := 2) 21 rfl rfl rfl (by kernel_rfl) (by kernel_rfl) (by kernel_rfl) (by simp [Act.put]) hS.out ?_
        apply Exists.intro
        refine And.intro (fun w' hS' => ?_) ?_
        · go_wp2
          first
            | exact ⟨trivial, rfl⟩
            | exact rfl
        refine pl_take (i := 3) 22 rfl rfl rfl (by kernel_rfl) (by kernel_rfl) (by kernel_rfl) (by simp [Act.put]) hS.out ?_
        apply Exists.intro
        refine And.intro (fun w' hS' => ?_) ?_
        · clear hS'
          go_wp2
          first
            | exact ⟨trivial, rfl⟩
            | exact rfl
        refine pl_take (i := 4) 23 rfl rfl rfl (by kernel_rfl) (by kernel_rfl) (by kernel_rfl) (by simp [Act.put]) hS.out ?_
        apply Exists.intro
        refine And.intro (fun w' hS' => ?_) ?_
        · go_wp2
          first
            | exact ⟨trivial, rfl⟩
            | exact rfl
        refine pl_take (i := 5) 24 rfl rfl rfl (by kernel_rfl) (by kernel_rfl) (by kernel_rfl) (by simp [Act.put]) hS.out ?_
        apply Exists.intro
        refine And.intro (fun w' hS' => ?_) ?_
        · have hc : w'.cell? (ad.add (k * 3)) = some (.slice a1 K c1) := by
            have h1 := hS'.at (fun z _ => rfl) HZ.out 0 _ rfl
            rwa [add_zero_addr] at h1
          clear hS'
          go_wp2
          first
            | exact ⟨trivial, rfl⟩
            | exact rfl
        refine pl_take (i := 6) 25 rfl rfl rfl (by kernel_rfl) (by kernel_rfl) (by kernel_rfl) (by simp [Act.put]) hS.out ?_
        apply Exists.intro
        refine And.intro (fun w' hS' => ?_) ?_
        · go_wp2
          first
            | exact ⟨trivial, rfl⟩
            | exact rfl
        refine pl_take (i := 7) 26 rfl rfl rfl (by kernel_rfl) (by kernel_rfl) (by kernel_rfl) (by simp [Act.put]) hS.out ?_
        apply Exists.intro
        refine And.intro (fun w' hS' => ?_) ?_
        · go_wp2
          first
            | exact ⟨trivial, rfl⟩
            | exact rfl
        refine pl_take (i := 8) 27 rfl rfl rfl (by kernel_rfl) (by kernel_rfl) (by kernel_rfl) (by simp [Act.put]) hS.out ?_
        apply Exists.intro
        refine And.intro (fun w' hS' => ?_) ?_
        · go_wp2
          first
            | exact ⟨trivial, rfl⟩
            | exact rfl
        refine pl_take (i := 9) 28 rfl rfl rfl (by kernel_rfl) (by kernel_rfl) (by kernel_rfl) (by simp [Act.put]) hS.out ?_
        apply Exists.intro
        refine And.intro (fun w' hS' => ?_) ?_
        · go_wp2
          first
            | exact ⟨trivial, rfl⟩
            | exact rfl
        refine pl_take (i := 10) 29 rfl rfl rfl (by kernel_rfl) (by kernel_rfl) (by kernel_rfl) (by simp [Act.put]) hS.out ?_
        apply Exists.intro
        refine And.intro (fun w' hS' => ?_) ?_
        · clear hS'
          go_wp2
          first
            | exact ⟨trivial, rfl⟩
            | exact rfl
        refine pl_take (i := 11) 30 rfl rfl rfl (by kernel_rfl) (by kernel_rfl) (by kernel_rfl) (by simp [Act.put]) hS.out ?_
        apply Exists.intro
        refine And.intro (fun w' hS' => ?_) ?_
        · go_wp2
          first
            | exact ⟨trivial, rfl⟩
            | exact rfl
        refine pl_take (i := 12) 31 rfl rfl rfl (by kernel_rfl) (by kernel_rfl) (by kernel_rfl) (by simp [Act.put]) hS.out ?_
        apply Exists.intro
        refine And.intro (fun w' hS' => ?_) ?_
        · have hc := cell_off (hS'.at (fun z _ => rfl) HZ.out (0 + 1) _ rfl)
          clear hS'
          go_wp2
          first
            | exact ⟨trivial, rfl⟩
            | exact rfl
        refine pl_take (i := 13) 32 rfl rfl rfl (by kernel_rfl) (by kernel_rfl) (by kernel_rfl) (by simp [Act.put]) hS.out ?_
        apply Exists.intro
        refine And.intro (fun w' hS' => ?_) ?_
        · go_wp2
          first
            | exact ⟨trivial, rfl⟩
            | exact rfl
        refine pl_take (i := 14) 33 rfl rfl rfl (by kernel_rfl) (by kernel_rfl) (by kernel_rfl) (by simp [Act.put]) hS.out ?_
        apply Exists.intro
        refine And.intro (fun w' hS' => ?_) ?_
        · go_wp2
          first
            | exact ⟨trivial, rfl⟩
            | exact rfl
        refine pl_take (i := 15) 5 rfl rfl rfl (by kernel_rfl) (by kernel_rfl) (by kernel_rfl) (by simp [Act.put]) hS.out ?_
        apply Exists.intro
        refine And.intro (fun w' hS' => ?_) ?_
        · go_wp2
          first
            | exact ⟨trivial, rfl⟩
            | exact rfl
        refine pl_done (by kernel_rfl) ?_
        have hd9 := hS.out
        clear hS HB
        go_wp2
        obtain ⟨n1, hn1⟩ : ∃ n1 : Int, n1 = n1 := ⟨0, rfl⟩
        clear hd9 hn1 n1
        go_loopw [5, 7] (fun v5 v7 wz => Below w2.heap.size w2 wz ∧ ∃ (j : Nat) (n : Int), j ≤ K ∧ v7 = .int .i64 (j : Int) ∧ v5 = .int .i64 n)
          (fun _ v _ => K - (RowKit.intOf v).toNat)
        case atStart => exact ⟨Below.refl _ _, 0, _, Nat.zero_le _, rfl, rfl⟩
        case round =>
          obtain ⟨hb, j, n, hj, rfl, rfl⟩ := hrel
          have HB := Lib.hid hb
          have hR := (HI.out.fresh (B2.out.tr hb)).at (fun z _ => rfl) HZ.out 0 _ rfl
          rw [add_zero_addr] at hR
          clear hb
          by_cases hj2 : j < K
          · have ij : (j : Int) < (K : Int) := by omega
            obtain ⟨xi, hxi⟩ : ∃ z, x.ins[j]? = some z := ⟨_, List.getElem?_eq_getElem (by rw [← HV.out.2.2.1]; exact hj2)⟩
            obtain ⟨ui, hui⟩ : ∃ z, vs[j]? = some z := ⟨_, List.getElem?_eq_getElem (by rw [HV.out.2.1]; exact hj2)⟩
            obtain ⟨bd, d, he⟩ := rd_some HV.out.1 (by omega)
            simp only [Value.slice.injEq, true_and] at he
            obtain ⟨rfl, rfl⟩ := he
            have hzi : (x.ins.zip vs)[j]? = some (xi, ui) := by rw [List.getElem?_zip_eq_some]; exact ⟨hxi, hui⟩
            have hok : ∀ z ∈ x.ins.zip vs, (inC z).length = 34 := fun z hz => inC_length (HV.out.2.2.2.1 _ (List.of_mem_zip hz).1)
            have hW := in_wit ((HV.out.1.fresh (B2.out.tr HB.out)).at hok hzi) (HV.out.2.2.2.1 _ (List.mem_of_getElem? hxi))
            obtain ⟨a5, c5, e5⟩ := (HV.out.2.2.2.2 j xi ui hxi hui).1.slice
            obtain ⟨W, hWl⟩ : ∃ W, W = xi.wit.length := ⟨_, rfl⟩
            rw [← hWl] at e5
            subst e5
            have HJ := Lib.hid hj2
            clear hxi hui hzi hok hj hWl hj2
            by_cases h300 : (j : Int) ≤ 300
            · go_wp2
              go_roundw
              case rel => exact ⟨HB.out, j + 1, _, HJ.out, by go_num, rfl⟩
              case measure => simp only [RowKit.intOf]; have := HJ.out; omega
            · skip
              have BQ : Hid (Below w.heap.size w _) := Lib.hid (B2.out.tr HB.out)
              by_cases hn : (600 : Int) < n
              · go_wp2
                go_ret
                exact ⟨⟨_, rfl⟩, BQ.out⟩
              · go_wp2
                go_roundw
                case rel => exact ⟨BQ.out, k + 1, _, HK.out, by go_num, rfl⟩
                case measure => simp only [RowKit.intOf]; have := HK.out; omega
          · have ij : ¬ ((j : Int) < (K : Int)) := by omega
            have BQ : Hid (Below w.heap.size w _) := Lib.hid (B2.out.tr HB.out)
            by_cases hn : (600 : Int) < n
            · go_wp2
              go_ret
              exact ⟨⟨_, rfl⟩, BQ.out⟩
            · go_wp2
              go_roundw
              case rel => exact ⟨BQ.out, k + 1, _, HK.out, by go_num, rfl⟩
              case measure => simp only [RowKit.intOf]; have := HK.out; omega
      · have ik : (k : Int) < (N : Int) := by omega
        clear hlt hk
        go_wp2
        go_ret
        exact ⟨⟨_, rfl⟩, HB.out⟩
    · have ik : ¬ ((k : Int) < (N : Int)) := by omega
      clear hlt hk
      go_wp2
      go_ret
      exact ⟨⟨_, rfl⟩, HB.out⟩

end Go.Proofs.Ytkbahhnjoidhcaa
