/- ShaTables: digits of great numbers, in plain words, and rows of one's own that are written. -/
import Derived.Test.YtdljpgihfjpnjaaSf
namespace Go.Proofs.Ytdljpgihfjpnjaa
set_option linter.unusedVariables false
set_option linter.unusedSimpArgs false
open Go.RowKit Go.Lib

def W64 : Nat := 18446744073709551616

def dgF : Nat → Nat → List Nat
  | 0, _ => []
  | f + 1, n => if n = 0 then [] else n % 65536 :: dgF f (n / 65536)

def moF : List Nat → List Nat
  | [] => [1]
  | x :: l => if x < 65535 then (x + 1) :: l else 0 :: moF l

def tStep (a b : List Nat) (i k : Nat) (e : List Nat) : List Nat :=
  let e1 := e.set (i + k) ((e.getD (i + k) 0 + a.getD i 0 * b.getD k 0 % W64) % W64)
  let e2 := e1.set (i + k + 1) ((e1.getD (i + k + 1) 0 + e1.getD (i + k) 0 / 65536) % W64)
  e2.set (i + k) (e2.getD (i + k) 0 % 65536)

def tInner (a b : List Nat) (i : Nat) : Nat → List Nat → List Nat
  | 0, e => e
  | k + 1, e => tStep a b i k (tInner a b i k e)

def tOuter (a b : List Nat) : Nat → List Nat → List Nat
  | 0, e => e
  | i + 1, e => tInner a b i b.length (tOuter a b i e)

def cStep (i : Nat) (e : List Nat) : List Nat :=
  let e1 := e.set (i + 1) ((e.getD (i + 1) 0 + e.getD i 0 / 65536) % W64)
  e1.set i (e1.getD i 0 % 65536)

def tCarry : Nat → List Nat → List Nat
  | 0, e => e
  | i + 1, e => cStep i (tCarry i e)

def timesB (a b : List Nat) : List Nat := tCarry (a.length + b.length) (tOuter a b a.length (List.replicate (a.length + b.length + 1) 0))

def powL (d : List Nat) : Nat → List Nat
  | 0 => d
  | n + 1 => timesB (powL d n) d

def cmpF (x y : List Nat) : Nat → Bool
  | 0 => true
  | i + 1 => if x.getD i 0 = y.getD i 0 then cmpF x y i else decide (x.getD i 0 < y.getD i 0)

def powB (d : List Nat) (power shift p : Nat) : Bool := cmpF (powL d (power - 1)) (List.replicate (shift / 16) 0 ++ dgF 4 p) (max (powL d (power - 1)).length (List.replicate (shift / 16) 0 ++ dgF 4 p).length)

@[simp] theorem tStep_length (a b : List Nat) (i k : Nat) (e : List Nat) : (tStep a b i k e).length = e.length := by simp [tStep]
@[simp] theorem tInner_length (a b : List Nat) (i k : Nat) (e : List Nat) : (tInner a b i k e).length = e.length := by induction k <;> simp [tInner, *]
@[simp] theorem tOuter_length (a b : List Nat) (i : Nat) (e : List Nat) : (tOuter a b i e).length = e.length := by induction i <;> simp [tOuter, *]
@[simp] theorem cStep_length (i : Nat) (e : List Nat) : (cStep i e).length = e.length := by simp [cStep]
@[simp] theorem tCarry_length (i : Nat) (e : List Nat) : (tCarry i e).length = e.length := by induction i <;> simp [tCarry, *]
@[simp] theorem timesB_length (a b : List Nat) : (timesB a b).length = a.length + b.length + 1 := by simp [timesB]

theorem dgF_length (f n : Nat) : (dgF f n).length ≤ f := by
  induction f generalizing n with
  | zero => simp [dgF]
  | succ f ih =>
    unfold dgF
    split
    · simp
    · have := ih (n / 65536); simp; omega

/-- A block of one's own that holds these numbers (and room behind them). -/
def Nb (w : World) (g : Nat) (E : List Nat) : Prop := ∃ cur : Array Value, w.heap[g]? = some (.cells cur 28 (0, 0)) ∧ cur.toList.take E.length = ns E

theorem Nb.get {w : World} {g : Nat} {E : List Nat} (h : Nb w g E) (k : Nat) (hk : k < E.length) : w.cell? ⟨g, k, none⟩ = some (nv (E.getD k 0)) := by
  obtain ⟨cur, h1, h2⟩ := h
  have h3 := ns_get E k hk
  rw [← h2, List.getElem?_take, if_pos hk] at h3
  simp [World.cell?, h1]
  simpa using h3

theorem Nb.free {w : World} {g : Nat} {E : List Nat} (h : Nb w g E) (k : Nat) : w.frozen? ⟨g, k, none⟩ = false := by
  obtain ⟨cur, h1, h2⟩ := h
  simp [World.frozen?, h1]

theorem Nb.set {w : World} {g : Nat} {E : List Nat} (h : Nb w g E) (k : Nat) (x : Nat) : Nb (w.setCell ⟨g, k, none⟩ (nv x)) g (E.set k x) := by
  obtain ⟨cur, h1, h2⟩ := h
  refine ⟨_, heap_setCell_same _ _ _ _ _ _ h1, ?_⟩
  rw [List.length_set]
  simp only [Array.toList_setIfInBounds]
  rw [List.take_set, h2]
  simp [ns, List.map_set]

theorem Nb.rd {w : World} {g c : Nat} {E : List Nat} (h : Nb w g E) (hc : E.length ≤ c) (hm : c ≤ maxLen) : Rd w 1 (.slice (some ⟨g, 0, none⟩) E.length c) E.length (ns E) := by
  refine ⟨by simp, .inr ⟨⟨g, 0, none⟩, c, rfl, hc, hm, fun j u hj => ?_⟩⟩
  have hlt := (List.getElem?_eq_some_iff.1 hj).1
  rw [ns_length] at hlt
  rw [add_at, Nat.zero_add, h.get j hlt]
  rw [ns_get E j hlt] at hj
  exact hj

theorem Nb.of_own {w : World} {base g n c : Nat} {E : List Nat} (h : w.ownsRow base 28 1 (.slice (some ⟨g, 0, none⟩) n c) n (ns E)) : Nb w g E ∧ base ≤ g := by
  have hl : E.length = n := by have := h.1; simpa using this
  rcases h.2 with ⟨he, _⟩ | ⟨g', cap, cur, he, hbg, hg, _, _, _, htake⟩
  · simp at he
  · simp only [Value.slice.injEq, Option.some.injEq, Addr.mk.injEq, and_true, true_and] at he
    obtain ⟨rfl, _⟩ := he
    exact ⟨⟨cur, hg, by rw [hl]; simpa using htake⟩, hbg⟩

set_option maxRecDepth 100000 in
set_option maxHeartbeats 400000 in
theorem digits_any (w : World) (n : Nat) (hn : n < 18446744073709551616) :
    Calls Try.prog 66 #[.int .u64 (n : Int)] w fun e w' => ∃ v, e = .returned v ∧ Rd w' 1 v (dgF 4 n).length (ns (dgF 4 n)) ∧ Below w.heap.size w w' := by
  obtain ⟨i0, hi, hz0, hz1, hz2⟩ := info_parts infoU64
  obtain ⟨D, hD⟩ : ∃ D, D = dgF 4 n := ⟨_, rfl⟩
  rw [← hD]
  have HD := Lib.hid (And.intro hD hn)
  clear hD hn
  go_enter Try.func66, Try.ntmps66
  go_wp2
  go_loopw [0, 3] (fun v0 v3 wr => ∃ (f x : Nat) (L : List Nat), x < 65536 ^ f ∧ L.length + f = 4 ∧ v0 = .int .u64 (x : Int) ∧ wr.ownsRow w.heap.size 28 1 v3 L.length (ns L) ∧ L ++ dgF f x = D ∧ Below w.heap.size w wr)
    (fun v _ _ => (intOf v).toNat)
  case atStart => exact ⟨4, n, [], by have := HD.out.2; omega, rfl, rfl, by simpa [ns] using World.ownsRow_nil _ _ _ _, by rw [HD.out.1]; rfl, Below.refl _ _⟩
  case round =>
    obtain ⟨f, x, L, hx, hf, rfl, ho, hLD, hb⟩ := hrel
    obtain ⟨a3, c3, rfl⟩ := own_slice ho
    obtain ⟨M, hM⟩ : ∃ M, M = L.length := ⟨_, rfl⟩
    rw [← hM] at ho hf ⊢
    have hM4 : M ≤ 4 := by omega
    have Ho := Lib.hid ho
    have Hb := Lib.hid hb
    have HL := Lib.hid (And.intro hx (And.intro hf (And.intro hLD hM)))
    clear ho hb hx hf hLD hM
    by_cases h0 : 0 < x
    · obtain ⟨r, hr⟩ : ∃ r, r = x % 65536 := ⟨_, rfl⟩
      obtain ⟨y, hy⟩ : ∃ y, y = x / 65536 := ⟨_, rfl⟩
      have er : (x : Int) % 65536 = (r : Int) := by omega
      have er' : (x : Int).tmod 65536 = (r : Int) := by rw [hr]; exact (Int.ofNat_tmod x 65536).symm
      have ey : (x : Int) / 65536 = (y : Int) := by omega
      have h0i : (0 : Int) < (x : Int) := by omega
      have HRY := Lib.hid (And.intro hr hy)
      have hyx : y < x := by omega
      have HYX := Lib.hid hyx
      clear hr hy hyx
      go_wp2_with (at_builtin; apply Stop.mk)
      refine Stop.go ?_
      have hbs : w.heap.size ≤ (wr.alloc (.cells #[.int .u64 (r : Int)] 28)).heap.size := by
        have h1 := Hb.out.size
        have h2 : (wr.alloc (.cells #[.int .u64 (r : Int)] 28)).heap.size = wr.heap.size + 1 := Array.size_push _
        omega
      refine wpList_append_rd _ rfl (.tmp 8) (.tmp 11) 74 rfl w.heap.size 28 i0 (.int .u64 0) 1 8 Try.underlying74 hi hz0 hz1 hz2 rfl (by decide) (.slice a3 M c3) M (ns L) rfl (Ho.out.alloc _) _ 1 [nv r] rfl (rd_one wr _ _) (ns_one [r]) (by unfold maxLen; omega) (by omega) hbs ?_
      intro v' w' hown hgr _ hgrew
      have Hbl : Hid (Below w.heap.size w w') := Below.grown (Hb.out.alloc Hb.out.size _) hgr hbs (own_base Ho.out)
      have Hown := Lib.hid hown
      clear hown hgr hgrew hbs
      go_wp2
      go_roundw
      case rel =>
        obtain ⟨hx, hf, hLD, hM⟩ := HL.out
        obtain ⟨f', rfl⟩ : ∃ f', f = f' + 1 := by
          rcases f with _ | f'
          · simp at hx; omega
          · exact ⟨f', rfl⟩
        refine ⟨f', y, L ++ [r], ?_, by simp; omega, rfl, ?_, ?_, Hbl.out⟩
        · rw [Nat.pow_succ] at hx
          rw [HRY.out.2]
          exact Nat.div_lt_of_lt_mul (by rw [Nat.mul_comm]; exact hx)
        · have h1 := Hown.out
          rw [hM] at h1
          simpa [ns] using h1
        · rw [← hLD, List.append_assoc, HRY.out.1, HRY.out.2]
          congr 1
          show x % 65536 :: dgF f' (x / 65536) = if x = 0 then [] else x % 65536 :: dgF f' (x / 65536)
          rw [if_neg (by omega)]
      case measure =>
        have := HYX.out
        simp only [intOf]
        omega
    · have hx0 : x = 0 := by omega
      have hfin : L = D := by
        have h1 := HL.out.2.2.1
        rw [hx0] at h1
        have h2 : dgF f 0 = [] := by cases f <;> simp [dgF]
        rw [h2, List.append_nil] at h1
        exact h1
      have HFIN := Lib.hid hfin
      clear hx0 hfin
      go_wp2
      go_ret
      refine ⟨_, rfl, ?_, Hb.out⟩
      have h1 := Rd.of_own Ho.out
      rw [HFIN.out] at h1
      have h2 : D.length = M := by have := h1.1; simpa using this
      rw [h2]
      exact h1
end Go.Proofs.Ytdljpgihfjpnjaa
