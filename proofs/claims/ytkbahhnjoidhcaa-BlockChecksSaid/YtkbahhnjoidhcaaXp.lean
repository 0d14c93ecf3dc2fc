/- The reference's Much of blocks: it says something. -/
import Derived.Test.YtkbahhnjoidhcaaXo
import Derived.Test.YtkbahhnjoidhcaaXk
namespace Go.Proofs.Ytkbahhnjoidhcaa
set_option linter.unusedVariables false
set_option linter.unusedSimpArgs false
open Go.RowKit

def blZ (z : BlD × Value × Value) : List Value := blC z.1 z.2.1 z.2.2

/-- A slice of blocks. -/
def Bls (F : Nat → Prop) (w : World) (v : Value) (l : List BlD) : Prop :=
  ∃ us : List (Value × Value), us.length = l.length ∧ (∀ x ∈ l, HdOk x.hd) ∧ Rd w 131 v l.length ((l.zip us).flatMap blZ) ∧ ∀ (i : Nat) (x : BlD) (u : Value × Value), l[i]? = some x → us[i]? = some u → Hs w u.1 x.hd.par ∧ Txs F w u.2 x.txs

theorem blC_len131 {x : BlD} {v t : Value} (h : HdOk x.hd) : (blC x v t).length = 131 := by
  unfold blC
  rw [List.length_append, hdC_length h]
  rfl

theorem blZ_at0 (x : BlD) (u : Value × Value) : (blZ (x, u))[0]? = some u.1 := rfl
theorem blZ_at130 {x : BlD} {u : Value × Value} (h : HdOk x.hd) : (blZ (x, u))[129 + 1]? = some u.2 := by
  unfold blZ blC
  rw [List.getElem?_append_right (by rw [hdC_length h]; exact Nat.le_refl _), hdC_length h]
  rfl

set_option maxRecDepth 100000 in
set_option maxHeartbeats 4000000 in
theorem much6_any (F : Nat → Prop) (w : World) (v : Value) (l : List BlD) (m : Int) (h : Bls F w v l) :
    Calls Try.prog 7 #[v, .int .i64 m] w fun e w' => IsB e ∧ Below w.heap.size w w' := by
  obtain ⟨us, hlu, hok, hru, heu⟩ := h
  obtain ⟨a0, c0, rfl⟩ := hru.slice
  obtain ⟨N, hN⟩ : ∃ N, N = l.length := ⟨_, rfl⟩
  rw [← hN] at hlu hru
  rw [← hN]
  have bN' : (N : Int) ≤ 9223372036854775807 := rd_small hru
  have HI := Lib.hid hru
  have HE := Lib.hid heu
  have HL := Lib.hid (And.intro hN (And.intro hlu hok))
  clear hN hlu hru heu hok
  go_enter Try.func7, Try.ntmps7
  go_wp2
  go_loopw [5] (fun v5 wr => Below w.heap.size w wr ∧ ∃ (k : Nat), k ≤ N ∧ v5 = .int .i64 (k : Int))
    (fun v _ => N - (RowKit.intOf v).toNat)
  case atStart => exact ⟨Below.refl _ _, 0, Nat.zero_le _, rfl⟩
  case round =>
    obtain ⟨hb, k, hk, rfl⟩ := hrel
    have HB := Lib.hid hb
    clear hb
    by_cases hlt : k < N
    · have ik : (k : Int) < (N : Int) := by omega
      by_cases hm : (k : Int) ≤ m
      · obtain ⟨x, hx⟩ : ∃ z, l[k]? = some z := ⟨_, List.getElem?_eq_getElem (by rw [← HL.out.1]; exact hlt)⟩
        obtain ⟨u, hu⟩ : ∃ z, us[k]? = some z := ⟨_, List.getElem?_eq_getElem (by rw [HL.out.2.1]; exact hlt)⟩
        obtain ⟨ad, c, he⟩ := rd_some HI.out (by omega)
        simp only [Value.slice.injEq, true_and] at he
        obtain ⟨rfl, rfl⟩ := he
        have hz : (l.zip us)[k]? = some (x, u) := by rw [List.getElem?_zip_eq_some]; exact ⟨hx, hu⟩
        have hxo := HL.out.2.2 _ (List.mem_of_getElem? hx)
        have hlz : ∀ z ∈ l.zip us, (blZ z).length = 131 := fun z hz => blC_len131 (HL.out.2.2 _ (List.of_mem_zip hz).1)
        have hat := (HI.out.fresh HB.out).at hlz hz
        have hc0 := hat 0 _ (blZ_at0 x u)
        rw [add_zero_addr] at hc0
        have hc1 := cell_off (hat (129 + 1) _ (blZ_at130 hxo))
        have he := HE.out k x u hx hu
        obtain ⟨a1, c1, e1⟩ := he.1.slice
        obtain ⟨L, hL⟩ : ∃ L, L = x.hd.par.length := ⟨_, rfl⟩
        rw [← hL] at e1
        rw [e1] at hc0
        have CM := Lib.hid (much5_any F wr u.2 x.txs 40 (he.2.fresh HB.out))
        have HK := Lib.hid hlt
        clear hx hu hz hxo hlz hat he e1 hL hlt hk
        by_cases h6 : (600 : Int) < (L : Int)
        · go_wp2
          go_ret
          exact ⟨⟨_, rfl⟩, HB.out⟩
        · go_wp2_with fail
          refine (CM.out).mono ?_
          rintro e w2 ⟨⟨B, rfl⟩, b2⟩
          have B2 := Lib.hid (HB.out.tr b2)
          clear b2 hc0 hc1
          cases B
          · go_wp2
            go_roundw
            case rel => exact ⟨B2.out, k + 1, HK.out, by go_num⟩
            case measure => simp only [RowKit.intOf]; have := HK.out; omega
          · go_wp2
            go_ret
            exact ⟨⟨_, rfl⟩, B2.out⟩
      · clear hlt hk
        go_wp2
        go_ret
        exact ⟨⟨_, rfl⟩, HB.out⟩
    · have ik : ¬ ((k : Int) < (N : Int)) := by omega
      clear hlt hk
      go_wp2
      go_ret
      exact ⟨⟨_, rfl⟩, HB.out⟩

end Go.Proofs.Ytkbahhnjoidhcaa
