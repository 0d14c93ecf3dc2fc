/- Disks: how many steps are gone through: the walk. -/
import Derived.Test.YtbbbgpdhdlknjaaDt
namespace Go.Proofs.Ytbbbgpdhdlknjaa
set_option linter.unusedVariables false
set_option linter.unusedSimpArgs false
open Go.RowKit Go.Lib

/-- Steps as they lie in memory. -/
def Sps (w : World) (v : Value) (l : List Sp) : Prop :=
  ∃ us : List Value, us.length = l.length ∧ Rd w 6 v l.length ((l.zip us).flatMap spC) ∧ ∀ (i : Nat) (s : Sp) (u : Value), l[i]? = some s → us[i]? = some u → Rd w 1 u s.b.length (bvs s.b)

theorem Sps.fresh {w w' : World} {v : Value} {l : List Sp} (h : Sps w v l) (hb : Below w.heap.size w w') : Sps w' v l := by
  obtain ⟨us, h1, h2, h3⟩ := h
  exact ⟨us, h1, h2.fresh hb, fun i s u hs hu => (h3 i s u hs hu).fresh hb⟩

theorem Sps.slice {w : World} {v : Value} {l : List Sp} (h : Sps w v l) : ∃ a c, v = .slice a l.length c := by
  obtain ⟨us, h1, h2, h3⟩ := h
  exact h2.slice

theorem Rd.at {α : Type} {w : World} {ad : Addr} {n c s : Nat} {f : α → List Value} {l : List α} (h : Rd w s (.slice (some ad) n c) n (l.flatMap f)) (hf : ∀ x ∈ l, (f x).length = s) {i : Nat} {x : α} (hi : l[i]? = some x) :
    ∀ j u, (f x)[j]? = some u → w.cell? ((ad.add (i * s)).add j) = some u := by
  intro j u hj
  rcases h.2 with ⟨he, _⟩ | ⟨ad', c', he, _, _, hc⟩
  · cases he
  · simp only [Value.slice.injEq, Option.some.injEq] at he
    obtain ⟨rfl, _, _⟩ := he
    rw [add_add_addr]
    exact hc _ u (flat_get f s l hf hi j u hj)

theorem cell_off {w : World} {ad : Addr} {j : Nat} {u : Value} (h : w.cell? (ad.add (j + 1)) = some u) : w.cell? ⟨ad.block, ad.off + (j + 1), none⟩ = some u := by
  rwa [Addr.add_succ'] at h

theorem rd_small {w : World} {a : Option Addr} {s n c : Nat} {cs : List Value} (h : Rd w s (.slice a n c) n cs) : (n : Int) ≤ 9223372036854775807 := by
  have h1 : n ≤ maxLen := by
    rcases h.2 with ⟨he, _⟩ | ⟨ad, c', he, h2, h3, _⟩
    · simp only [Value.slice.injEq] at he
      omega
    · simp only [Value.slice.injEq] at he
      omega
  unfold maxLen at h1
  omega

/-- It ends with a Boolean: false only where the steps are few, and short. -/
def IsM (l : List Sp) (e : Ending) : Prop := ∃ B : Bool, e = .returned (.bool B) ∧ (B = false → l.length ≤ 60 ∧ ∀ s ∈ l, s.b.length ≤ 20000)

set_option maxRecDepth 100000 in
set_option maxHeartbeats 2000000 in
theorem much_any (w : World) (v : Value) (l : List Sp) (h : Sps w v l) :
    Calls Try.prog 8 #[v, .int .i64 60] w fun e w' => IsM l e ∧ Below w.heap.size w w' := by
  obtain ⟨a0, c0, rfl⟩ := h.slice
  obtain ⟨N, hN⟩ : ∃ N, N = l.length := ⟨_, rfl⟩
  obtain ⟨us, hlu, hru, heu⟩ := h
  rw [← hN] at hlu hru
  rw [← hN]
  have bN' : (N : Int) ≤ 9223372036854775807 := rd_small hru
  have HI := Lib.hid hru
  have HE := Lib.hid heu
  have HL := Lib.hid (And.intro hN hlu)
  clear hN hlu hru heu
  go_enter Try.func8, Try.ntmps8
  go_wp2
  go_loopw [5, 6] (fun v5 v6 wr => Below w.heap.size w wr ∧ ∃ (k n : Nat), k ≤ N ∧ k ≤ 61 ∧ v6 = .int .i64 (k : Int) ∧ v5 = .int .i64 (n : Int) ∧ n ≤ 20001 * k ∧ ∀ s ∈ l.take k, min s.b.length 20001 ≤ n)
    (fun _ v _ => N - (RowKit.intOf v).toNat)
  case atStart => exact ⟨Below.refl _ _, 0, 0, Nat.zero_le _, by omega, rfl, rfl, by omega, fun s hs => by simp at hs⟩
  case round =>
    obtain ⟨hb, k, n, hk, hk61, rfl, rfl, hn, hall⟩ := hrel
    have HB := Lib.hid hb
    have HALL := Lib.hid hall
    clear hb hall
    by_cases hlt : k < N
    · have ik : (k : Int) < (N : Int) := by omega
      have ik' : (decide (k < N)) = true := by simpa using hlt
      by_cases hm : k ≤ 60
      · have im : (k : Int) ≤ 60 := by omega
        have im' : (decide ((k : Int) ≤ 60)) = true := by simpa using im
        obtain ⟨x, hx⟩ : ∃ z, l[k]? = some z := ⟨_, List.getElem?_eq_getElem (by rw [← HL.out.1]; exact hlt)⟩
        obtain ⟨u, hu⟩ : ∃ z, us[k]? = some z := ⟨_, List.getElem?_eq_getElem (by rw [HL.out.2]; exact hlt)⟩
        obtain ⟨ad, c, he⟩ := rd_some HI.out (by omega)
        simp only [Value.slice.injEq, true_and] at he
        obtain ⟨rfl, rfl⟩ := he
        have hz : (l.zip us)[k]? = some (x, u) := by rw [List.getElem?_zip_eq_some]; exact ⟨hx, hu⟩
        have hrx := HE.out k x u hx hu
        obtain ⟨a1, c1, rfl⟩ := hrx.slice
        have hc5 := cell_off (j := 4) ((HI.out.fresh HB.out).at (fun z _ => rfl) hz 5 _ rfl)
        obtain ⟨m, hm1⟩ : ∃ m, m = x.b.length := ⟨_, rfl⟩
        rw [← hm1] at hc5
        obtain ⟨q, hq⟩ : ∃ q, q = min m 20001 := ⟨_, rfl⟩
        have e : min (m : Int) 20001 = (q : Int) := by omega
        have bq : (q : Int) ≤ 20001 := by omega
        have bn : (n : Int) ≤ 2000000 := by omega
        have HX := Lib.hid (And.intro hx (And.intro hm1 hq))
        have HK := Lib.hid (And.intro hlt (And.intro hm hn))
        clear hx hu hz hrx hm1 hq hk hk61 hn
        go_wp2
        go_roundw
        case rel =>
          refine ⟨HB.out, k + 1, n + q, by have := HK.out.1; omega, by have := HK.out.2.1; omega, by go_num, by go_num, by have := HK.out.2.2; omega, fun s hs => ?_⟩
          rw [List.take_add_one, HX.out.1] at hs
          rcases List.mem_append.1 hs with hs | hs
          · have := HALL.out s hs
            omega
          · simp only [Option.toList_some, List.mem_singleton] at hs
            subst hs
            have h1 := HX.out.2.1
            have h2 := HX.out.2.2
            omega
        case measure => have := HK.out.1; simp only [RowKit.intOf]; omega
      · have im : ¬ ((k : Int) ≤ 60) := by omega
        have im' : (decide ((k : Int) ≤ 60)) = false := by simpa using im
        have iN : (60 : Int) < (N : Int) := by omega
        have iN' : (decide (60 < N)) = true := by simp; omega
        clear hlt hk hk61 hn
        go_wp2
        go_ret
        exact ⟨⟨true, rfl, fun h => by cases h⟩, HB.out⟩
    · have ik : ¬ ((k : Int) < (N : Int)) := by omega
      have ik' : (decide (k < N)) = false := by simpa using hlt
      obtain rfl : k = N := by omega
      by_cases h60 : k ≤ 60
      · have iN : ¬ ((60 : Int) < (k : Int)) := by omega
        have iN' : (decide (60 < k)) = false := by simp; omega
        have H60 := Lib.hid h60
        clear hk hk61 hlt h60
        obtain ⟨B, hB⟩ : ∃ B, B = decide ((20000 : Int) < (n : Int)) := ⟨_, rfl⟩
        have HBB := Lib.hid hB
        clear hB
        cases hbb : B
        · have h2 : ¬ (20000 < n) := by have := HBB.out; rw [hbb] at this; simp at this; omega
          have h3 : ¬ ((20000 : Int) < (n : Int)) := by omega
          have h2' : (decide (20000 < n)) = false := by simpa using h2
          have H2 := Lib.hid h2
          clear h2 hn hbb
          go_wp2
          go_ret
          refine ⟨⟨false, rfl, fun _ => ⟨by have := H60.out; rw [← HL.out.1]; exact this, fun s hs => ?_⟩⟩, HB.out⟩
          have h5 := HALL.out s (by rw [HL.out.1, List.take_length]; exact hs)
          have h6 := H2.out
          omega
        · have h2 : 20000 < n := by have := HBB.out; rw [hbb] at this; simp at this; omega
          have h3 : ((20000 : Int) < (n : Int)) := by omega
          have h2' : (decide (20000 < n)) = true := by simpa using h2
          clear hn hbb
          go_wp2
          go_ret
          exact ⟨⟨true, rfl, fun h => by cases h⟩, HB.out⟩
      · have iN : ((60 : Int) < (k : Int)) := by omega
        have iN' : (decide (60 < k)) = true := by simp; omega
        clear hk hk61 hlt h60 hn
        go_wp2
        go_ret
        exact ⟨⟨true, rfl, fun h => by cases h⟩, HB.out⟩

end Go.Proofs.Ytbbbgpdhdlknjaa
