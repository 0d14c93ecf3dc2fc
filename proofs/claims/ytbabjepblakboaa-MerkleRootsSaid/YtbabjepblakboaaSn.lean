/- The first primes: the walk. -/
import Derived.Test.YtbabjepblakboaaSc
import Derived.WalkMore
import Derived.ScopeJumps
namespace Go.Proofs.Ytbabjepblakboaa
set_option linter.unusedVariables false
set_option linter.unusedSimpArgs false
open Go.RowKit Go.Lib

def divs (l : List Nat) (x : Nat) : Bool := l.any fun p => x % p == 0

/-- The primes among 2 .. n + 1. -/
def pr : Nat → List Nat
  | 0 => []
  | n + 1 => if divs (pr n) (n + 2) then pr n else pr n ++ [n + 2]

theorem pr_prefix (x d : Nat) : ∃ t, pr (x + d) = pr x ++ t := by
  induction d with
  | zero => exact ⟨[], by simp⟩
  | succ d ih =>
    obtain ⟨t, ht⟩ := ih
    rw [show x + (d + 1) = (x + d) + 1 by omega, show pr (x + d + 1) = if divs (pr (x + d)) (x + d + 2) then pr (x + d) else pr (x + d) ++ [x + d + 2] from rfl]
    split
    · exact ⟨t, ht⟩
    · exact ⟨t ++ [x + d + 2], by rw [ht]; simp⟩

theorem pr_le (x B : Nat) (h : x ≤ B) : (pr x).length ≤ (pr B).length := by
  obtain ⟨t, ht⟩ := pr_prefix x (B - x)
  rw [show x + (B - x) = B by omega] at ht
  rw [ht]; simp

theorem pr_eq (x B : Nat) (h : x ≤ B) (hl : (pr B).length ≤ (pr x).length) : pr x = pr B := by
  obtain ⟨t, ht⟩ := pr_prefix x (B - x)
  rw [show x + (B - x) = B by omega] at ht
  have hl0 : t.length = 0 := by rw [ht] at hl; rw [List.length_append] at hl; omega
  rw [ht, List.eq_nil_of_length_eq_zero hl0, List.append_nil]

theorem pr_bound (n : Nat) : ∀ p ∈ pr n, 2 ≤ p ∧ p ≤ n + 1 := by
  induction n with
  | zero => intro p hp; cases hp
  | succ n ih =>
    intro p hp
    unfold pr at hp
    split at hp
    · have := ih p hp; omega
    · rcases List.mem_append.1 hp with h | h
      · have := ih p h; omega
      · simp at h; omega

theorem pr_len (n : Nat) : (pr n).length ≤ n := by
  induction n with
  | zero => simp [pr]
  | succ n ih =>
    unfold pr
    split
    · omega
    · simp; omega

def nv (x : Nat) : Value := .int .u64 (x : Int)
def ns (l : List Nat) : List Value := l.map nv

@[simp] theorem ns_length (l : List Nat) : (ns l).length = l.length := by simp [ns]

theorem ns_get (l : List Nat) (k : Nat) (h : k < l.length) : (ns l)[k]? = some (nv (l.getD k 0)) := by
  simp [ns, List.getD_eq_getElem?_getD, h]

theorem ns_one (l : List Nat) : ∀ u ∈ ns l, u.oneCell' = true := by
  intro u hu
  simp only [ns, List.mem_map] at hu
  obtain ⟨x, _, rfl⟩ := hu
  rfl

theorem infoU64 : (Try.prog.info? 25).map (fun i => (i.zero, i.size, i.bytes)) = some (some (.int .u64 0), 1, 8) := by kernel_rfl

theorem rd_one (w : World) (x : Value) (t : TypeId) : Rd (w.alloc (.cells #[x] t)) 1 (.slice (some ⟨w.heap.size, 0, none⟩) 1 1) 1 [x] := by
  refine ⟨rfl, .inr ⟨⟨w.heap.size, 0, none⟩, 1, rfl, Nat.le_refl _, by decide, fun j u hj => ?_⟩⟩
  rcases j with _ | j
  · simp only [List.getElem?_cons_zero, Option.some.injEq] at hj
    subst hj
    exact cell0_alloc _ _ _
  · simp at hj

theorem own_base {w : World} {base : Nat} {e : TypeId} {size : Nat} {v : Value} {n : Nat} {xs : List Value} (h : w.ownsRow base e size v n xs) : ∀ k, v.ownBlock = some k → base ≤ k := by
  intro k hk
  rcases h.2 with ⟨rfl, _⟩ | ⟨g, cap, cur, rfl, hbg, _⟩
  · simp [Value.ownBlock] at hk
  · simp [Value.ownBlock] at hk
    omega

set_option maxRecDepth 100000 in
set_option maxHeartbeats 400000 in
theorem primes_any (w : World) (N B : Nat) (hB : (pr B).length = N) (hs : B ≤ 1000) :
    Calls Try.prog 162 #[.int .i64 (N : Int)] w fun e w' => ∃ v, e = .returned v ∧ Rd w' 1 v N (ns (pr B)) ∧ (∀ k, v.ownBlock = some k → w.heap.size ≤ k) ∧ Below w.heap.size w w' := by
  obtain ⟨i0, hi, hz0, hz1, hz2⟩ := info_parts infoU64
  have HB := Lib.hid hB; clear hB
  go_enter Try.func162, Try.ntmps162
  go_wp2
  go_step3
  go_wp2
  go_step3
  go_wp2
  go_loopw [3, 4] (fun v3 v4 wr => ∃ x : Nat, x ≤ B ∧ v4 = .int .u64 ((x + 2 : Nat) : Int) ∧ wr.ownsRow w.heap.size 25 1 v3 (pr x).length (ns (pr x)) ∧ Below w.heap.size w wr)
    (fun _ v _ => B + 3 - (intOf v).toNat)
  case atStart => exact ⟨0, by omega, rfl, by simpa [pr, ns] using World.ownsRow_nil _ _ _ _, Below.refl _ _⟩
  case round =>
    obtain ⟨x, hx, rfl, ho, hb⟩ := hrel
    obtain ⟨a3, c3, rfl⟩ := own_slice ho
    have Hb := Lib.hid hb; clear hb
    have hll := pr_len x
    obtain ⟨M, hM⟩ : ∃ M, M = (pr x).length := ⟨_, rfl⟩
    have hM' : M ≤ 1000 := by omega
    have HM := Lib.hid hM
    rw [← hM] at ho ⊢
    have Ho := Lib.hid ho; clear ho
    clear hM hll
    obtain ⟨y, hy⟩ : ∃ y, y = x + 2 := ⟨_, rfl⟩
    rw [← hy]
    have HY := Lib.hid hy; clear hy
    by_cases hlt : M < N
    · have hxB : Hid (x < B) := by
        refine Lib.hid ?_
        rcases Nat.lt_or_ge x B with h | h
        · exact h
        · have : x = B := by omega
          have h1 := HM.out
          have h2 := HB.out
          rw [this] at h1
          omega
      rename World => wr0
      go_wp2
      go_loopw [15] (fun v15 wr => wr = wr0 ∧ ∃ k : Nat, k ≤ M ∧ v15 = .int .i64 (k : Int) ∧ ∀ j, j < k → y % (pr x).getD j 0 ≠ 0)
        (fun v _ => M - (intOf v).toNat)
      case atStart => exact ⟨rfl, 0, by omega, rfl, fun j hj => by omega⟩
      case round =>
        obtain ⟨rfl, k, hk, rfl, hnd⟩ := hrel
        have Hnd := Lib.hid hnd; clear hnd
        by_cases hkM : k < M
        · rcases (Rd.of_own Ho.out).2 with ⟨he, h0⟩ | ⟨ad, c', he, _, _, hcell⟩
          · have := HM.out; omega
          simp only [Value.slice.injEq, true_and] at he
          obtain ⟨rfl, rfl⟩ := he
          obtain ⟨q, hq⟩ : ∃ q, q = (pr x).getD k 0 := ⟨_, rfl⟩
          have fk : wr.cell? (ad.add k) = some (.int .u64 (q : Int)) := by
            rw [hq]
            exact hcell k _ (ns_get _ _ (by have := HM.out; omega))
          have hq2 : 2 ≤ q := by
            rw [hq]
            refine (pr_bound x _ ?_).1
            have : k < (pr x).length := by have := HM.out; omega
            simp [List.getD_eq_getElem?_getD, this]
          have bk : (k : Int) < (M : Int) := by omega
          have hq0 : ¬ ((q : Int) = 0) := by omega
          obtain ⟨Z, hZ⟩ : ∃ Z, Z = y % q := ⟨_, rfl⟩
          have g1 : (y : Int).tmod (q : Int) = (Z : Int) := by rw [hZ]; exact (Int.ofNat_tmod y q).symm
          have HZ := Lib.hid hZ
          have HQ := Lib.hid hq
          clear hZ hq hcell
          by_cases hz : Z = 0
          · subst hz
            go_wp2
            go_roundw
            case rel =>
              have hd : divs (pr x) (x + 2) = true := by
                have hk' : k < (pr x).length := by have := HM.out; omega
                unfold divs
                rw [List.any_eq_true]
                refine ⟨(pr x)[k], List.getElem_mem hk', ?_⟩
                have h1 := HZ.out
                rw [HQ.out, HY.out] at h1
                simp [List.getD_eq_getElem?_getD, hk'] at h1
                simp [← h1]
              have hp : pr (x + 1) = pr x := by
                show (if divs (pr x) (x + 2) then pr x else _) = _
                rw [if_pos hd]
              refine ⟨x + 1, hxB.out, ?_, ?_, Hb.out⟩
              · have := HY.out
                rw [IntKind.wrap_u64]
                simp only [Value.int.injEq, true_and]
                omega
              · rw [hp, ← HM.out]
                exact Ho.out
            case measure =>
              have := HY.out
              have := hxB.out
              simp only [intOf]
              rw [IntKind.wrap_u64]
              omega
          · have hzi : ¬ ((Z : Int) = 0) := by omega
            go_wp2
            go_roundw
            case rel =>
              refine ⟨trivial, k + 1, by omega, by go_num, fun j hj => ?_⟩
              rcases Nat.lt_or_ge j k with h | h
              · exact Hnd.out j h
              · have : j = k := by omega
                rw [this, ← HQ.out, ← HZ.out]
                exact hz
            case measure =>
              simp only [intOf]
              omega
        · have hkk : k = M := by omega
          have HK := Lib.hid hkk; clear hkk
          go_wp2_with (at_builtin; apply Stop.mk)
          refine Stop.go ?_
          have h63 : M + 1 ≤ maxLen := by unfold maxLen; omega
          have hbs : w.heap.size ≤ (wr.alloc (.cells #[.int .u64 (y : Int)] 25)).heap.size := by
            have h1 := Hb.out.size
            have h2 : (wr.alloc (.cells #[.int .u64 (y : Int)] 25)).heap.size = wr.heap.size + 1 := Array.size_push _
            omega
          refine wpList_append_rd _ rfl (.tmp 24) (.tmp 26) 218 rfl w.heap.size 25 i0 (.int .u64 0) 1 8 Try.underlying218 hi hz0 hz1 hz2 rfl (by decide) (.slice a3 M c3) M (ns (pr x)) rfl (Ho.out.alloc _) _ 1 [nv y] rfl (rd_one wr _ _) (ns_one [y]) h63 (by omega) hbs ?_
          intro v' w' hown hgr _ hgrew
          have Hbl : Hid (Below w.heap.size w w') := Below.grown (Hb.out.alloc Hb.out.size _) hgr hbs (own_base Ho.out)
          have Hown := Lib.hid hown
          clear hown hgr hgrew hbs h63
          go_wp2
          go_roundw
          case rel =>
            have hd : divs (pr x) (x + 2) = false := by
              rw [← Bool.not_eq_true]
              intro h
              unfold divs at h
              rw [List.any_eq_true] at h
              obtain ⟨q, hq, hz⟩ := h
              obtain ⟨j, hj, rfl⟩ := List.getElem_of_mem hq
              have h1 := Hnd.out j (by have := HK.out; have := HM.out; omega)
              rw [HY.out] at h1
              simp [List.getD_eq_getElem?_getD, hj] at h1
              simp at hz
              exact h1 hz
            have hp : pr (x + 1) = pr x ++ [x + 2] := by
              show (if divs (pr x) (x + 2) then pr x else _) = _
              rw [hd]
              rfl
            refine ⟨x + 1, hxB.out, ?_, ?_, Hbl.out⟩
            · have := HY.out
              rw [IntKind.wrap_u64]
              simp only [Value.int.injEq, true_and]
              omega
            · rw [hp]
              have h1 := Hown.out
              rw [HM.out, HY.out] at h1
              simpa [ns] using h1
          case measure =>
            have := HY.out
            have := hxB.out
            simp only [intOf]
            rw [IntKind.wrap_u64]
            omega
    · have hNM : (pr x).length = N := by
        have h1 := pr_le x B hx
        have := HM.out
        have := HB.out
        omega
      obtain rfl : M = N := by have := HM.out; omega
      have hpe : pr x = pr B := pr_eq x B hx (by rw [hNM, HB.out]; exact Nat.le_refl _)
      have HP := Lib.hid hpe
      have HN := Lib.hid hNM
      clear hNM hpe
      go_wp2
      rw [Exit.noGoto_ret]
      go_ret
      refine ⟨_, rfl, ?_, own_base Ho.out, Hb.out⟩
      have h1 := Rd.of_own Ho.out
      rw [HP.out] at h1
      exact h1
end Go.Proofs.Ytbabjepblakboaa
