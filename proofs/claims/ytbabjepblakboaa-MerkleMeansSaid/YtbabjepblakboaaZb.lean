/- Merkle: two unlike texts of one hash: the walk. -/
import Derived.Test.YtbabjepblakboaaG9
import Derived.Test.YtbabjepblakboaaG4
namespace Go.Proofs.Ytbabjepblakboaa
set_option linter.unusedVariables false
set_option linter.unusedSimpArgs false
open Go.RowKit Go.Lib

theorem reverse_own (w : World) (base N : Nat) (v : Value) (L : List Nat) (h : w.ownsRow base 163 1 v N (pvs L)) (hL : L.length = N) (h0 : 0 < N) (hN : N ≤ 1000) :
    Calls Try.prog 114 #[v] w fun e w' => e = .returned (.tuple #[]) ∧ w.grownBy w' v.ownBlock ∧ Rd w' 1 v N (pvs L.reverse) := by
  have hr := Rd.of_own h
  rcases h.2 with ⟨he, hz⟩ | ⟨g, cap, cur, he, hbg, hb, hc1, hc2, hc3, hc4⟩
  · omega
  · subst he
    have hfr : ∀ j, w.frozen? ⟨g, j, none⟩ = false := fun j => by
      unfold World.frozen?
      rw [hb]
      simp
    have hsz : L.toArray.size = N := by simpa using hL
    have hH : Go.Sort.Holds pv w g 0 L.toArray := fun j hj => by
      have hj' : j < L.length := by simpa using hj
      have h1 := hr.ptr (i := j) (g := L[j]) (List.getElem?_eq_getElem hj')
      refine ⟨?_, hfr _⟩
      rw [getElem!_pos L.toArray j hj]
      rw [add_at] at h1
      exact h1
    have hcon := reverse_any g 0 cap L.toArray w hH (by rw [hsz]; omega)
    rw [hsz] at hcon
    refine hcon.mono ?_
    rintro e w' ⟨rfl, k, rfl⟩
    have hH2 := Go.Sort.holds_putRow pv _ g 0 L.toArray L.toArray.reverse (Go.Sort.holds_ahead pv w k g 0 L.toArray hH) (by simp)
    refine ⟨rfl, ⟨rfl, rfl, rfl, ?_, fun j hj hne => ?_⟩, ⟨by simp [hL], .inr ⟨_, cap, rfl, hc1, hc2, fun j u hj => ?_⟩⟩⟩
    · simp [Go.Sort.putRow, Go.Sort.mapBlock, Go.Sort.ahead]
    · have hjg : j ≠ g := fun e => hne (by rw [e]; rfl)
      simp [Go.Sort.putRow, Go.Sort.mapBlock, Go.Sort.ahead, Array.getElem?_modify, Ne.symm hjg]
    · have hjl : j < L.length := by
        have := (List.getElem?_eq_some_iff.1 hj).1
        simpa using this
      have h1 := (hH2 j (by simpa using hjl)).1
      rw [getElem!_pos L.toArray.reverse j (by simpa using hjl)] at h1
      simp only [add_at, Nat.zero_add] at h1 ⊢
      rw [h1]
      rw [pvs, List.getElem?_map, List.getElem?_eq_getElem (by simpa using hjl)] at hj
      simpa using hj

theorem tree_own (w : World) (v : Value) (l : List Bs) (h : Hs w v l) (hl : l.length ≤ 1048576) (c : Nat) (x : Bs) (zs : List (Bs × Bool)) (D : List Bool) :
    Calls Try.prog 115 #[v] w fun e w' => ∃ g, e = .returned (.pointer (some ⟨g, 0, none⟩)) ∧ OwnAt w' l c x zs D 0 g ∧ Below w.heap.size w w' := by
  rcases Nat.eq_zero_or_pos l.length with h0 | h0
  · refine (tree_none w v l h h0).mono ?_
    rintro e w' ⟨g, rfl, n, b⟩
    exact ⟨g, rfl, .inl ⟨List.length_eq_zero_iff.1 h0, n⟩, b⟩
  · refine (tree_some w v l h h0 hl).mono ?_
    rintro e w' ⟨g, gt, rfl, n, t, b⟩
    exact ⟨g, rfl, .inr ⟨fun e => by subst e; exact absurd h0 (Nat.lt_irrefl _), gt, n, t⟩, b⟩

/-- Does a path check, for a place it is not of? -/
def rightB (l : List Bs) (x : Bs) (n c : Int) : Bool := decide (c = (l.length : Int)) && (l.getD n.toNat [] == x)
def collB (l : List Bs) (x : Bs) (n c : Int) (hs : List Bs) : Bool := checkE (rootB l) x n c hs == 0 && !rightB l x n c

theorem checkE_zero {r x : Bs} {n c : Int} {hs : List Bs} (h : checkE r x n c hs = 0) : mayB n c hs = true ∧ leadB n.toNat c.toNat x hs = r := by
  unfold checkE at h
  split at h
  · rename_i h1
    simp only [Bool.and_eq_true, beq_iff_eq] at h1
    exact h1
  · exact absurd h (by decide)

def Told (w' : World) (is : Bool) (va vb : Value) : Prop := (is = false ∧ va = .slice none 0 0 ∧ vb = .slice none 0 0) ∨ (is = true ∧ ∃ ta tb : Bs, (ta.length ≤ 100 ∧ tb.length ≤ 100) ∧ Rd w' 1 va ta.length (bvs ta) ∧ Rd w' 1 vb tb.length (bvs tb) ∧ ta ≠ tb ∧ shaB ta = shaB tb)

theorem OwnAt.fresh {w w' : World} {l : List Bs} {c : Nat} {x : Bs} {zs : List (Bs × Bool)} {D : List Bool} {i o : Nat} (h : OwnAt w l c x zs D i o) (hb : Below w.heap.size w w') : OwnAt w' l c x zs D i o := by
  cases i with
  | zero =>
    rcases h with ⟨h1, h2⟩ | ⟨h1, gt, h2, h3⟩
    · exact .inl ⟨h1, NodeAt.fresh h2 hb⟩
    · exact .inr ⟨h1, gt, NodeAt.fresh h2 hb, TrAt.fresh h3 hb⟩
  | succ k =>
    obtain ⟨h1, h2, h3, h4⟩ := h
    exact ⟨h1, h2, TrAt.fresh h3 hb, h4⟩

theorem node32 {h : Bs} {a b : Value} (hl : h.length = 32) : (bvs h ++ [a, b])[32]? = some a ∧ (bvs h ++ [a, b])[33]? = some b := by
  constructor
  · rw [List.getElem?_append_right (by rw [bvs_length, hl]; decide), bvs_length, hl]; rfl
  · rw [List.getElem?_append_right (by rw [bvs_length, hl]; decide), bvs_length, hl]; rfl

theorem way_root {a b : Nat} {x : Bs} {hs : List Bs} {zs : List (Bs × Bool)} (hab : a < b) (hb : b ≤ 1048576) (hl : hs.length = sizeM 20 a b) (hzs : zs = hs.zip (dirsM 20 a b).reverse) : leadB a b x hs = topB b (wh x zs zs.length) := by
  have h1 := accL_lead knotB [] 20 a b (leafB x) hs hab hb (Nat.le_of_eq hl.symm)
  have h2 := accL_fold a b (leafB x) hs 20 hab hb hl 20
  rw [h1, List.take_of_length_le (Nat.le_of_eq hl)] at h2
  unfold leadB wh
  rw [List.take_of_length_le (Nat.le_refl _), hzs, ← accD_dirs 20 a b hab hb, List.reverse_reverse]
  exact congrArg _ h2

set_option maxRecDepth 100000 in
set_option maxHeartbeats 8000000 in
theorem collide_any (w : World) (v vi : Value) (x : Bs) (n c : Int) (hs l : List Bs) (hx : x.length = 32) (h : Hs w v hs) (hi : Hs w vi l) (hl : l.length ≤ 1048576) :
    Calls Try.prog 60 #[.agg (bvs x).toArray, .agg #[.int .i64 n, .int .i64 c, v], vi] w fun e w' => ∃ va vb, e = .returned (.tuple #[va, vb, .bool (collB l x n c hs)]) ∧ Told w' (collB l x n c hs) va vb ∧ Below w.heap.size w w' := by
  obtain ⟨a0, c0, rfl⟩ := h.slice
  obtain ⟨a1, c1, rfl⟩ := hi.slice
  obtain ⟨N, hN⟩ : ∃ N, N = hs.length := ⟨_, rfl⟩
  obtain ⟨M, hM⟩ : ∃ M, M = l.length := ⟨_, rfl⟩
  obtain ⟨Z, hZ⟩ : ∃ Z, Z = rootB l := ⟨_, rfl⟩
  obtain ⟨C, hC⟩ : ∃ C, C = checkE (rootB l) x n c hs := ⟨_, rfl⟩
  obtain ⟨T, hT⟩ : ∃ T, T = collB l x n c hs := ⟨_, rfl⟩
  have hZl : Z.length = 32 := by rw [hZ]; exact topB_length _ _
  have CR := Lib.hid (fun w0 (h0 : Hs w0 (.slice a1 l.length c1) l) => mroot_any w0 (.slice a1 l.length c1) l h0 hl)
  have CC := Lib.hid (fun w0 (h0 : Hs w0 (.slice a0 hs.length c0) hs) => mcheck_any w0 (rootB l) x n c (.slice a0 hs.length c0) hs (by rw [← hZ]; exact hZl) hx h0)
  rw [← hT]
  rw [← hN] at h CC ⊢
  rw [← hM] at hi CR ⊢
  rw [← hC] at CC
  rw [← hZ] at CR CC hC
  have H := Lib.hid h
  have HI := Lib.hid hi
  have HX := Lib.hid (And.intro hx (And.intro hl (And.intro hN (And.intro hM (And.intro hZ (And.intro hC (And.intro hT hZl)))))))
  clear h hi hx hl hN hM hZ hC hT hZl
  go_enter Try.func60, Try.ntmps60
  go_wp2_with fail
  obtain ⟨w1, h1, k1, b1, s1⟩ := alloc_cb w 24 (bvs x)
  obtain ⟨w2, h2, k2, b2, s2⟩ := alloc_cb w1 92 [.int .i64 n, .int .i64 c, .slice a0 N c0]
  change Code.wp _ _ _ _ ((w.alloc (.cells (bvs x).toArray 24)).alloc (.cells [.int .i64 n, .int .i64 c, .slice a0 N c0].toArray 92))
  rw [← h1, ← h2]
  rw [s1] at s2 k2
  have b2' := (b1.tr b2).drew
  have hS : Hid (CB w2.drew 24 w.heap.size (bvs x) ∧ CB w2.drew 92 (w.heap.size + 1) [.int .i64 n, .int .i64 c, .slice a0 N c0] ∧ Hs w2.drew (.slice a1 M c1) l) := Lib.hid ⟨k1.fresh b2.drew, k2, HI.out.fresh b2'⟩
  have B3 := Lib.hid b2'
  clear h1 h2 k1 k2 b1 b2 b2' s1 s2
  refine pl_start 22 rfl (fun w' => CB w' 24 w.heap.size (bvs x) ∧ CB w' 92 (w.heap.size + 1) [.int .i64 n, .int .i64 c, .slice a0 N c0] ∧ Hs w' (.slice a1 M c1) l) (by kernel_rfl) ?_
  obtain ⟨w4, hw4⟩ : ∃ w4, w4 = w2.drew := ⟨_, rfl⟩
  rw [← hw4] at hS B3 ⊢
  clear hw4
  refine pl_take (i := 0) 13 rfl rfl rfl (by kernel_rfl) (by kernel_rfl) (by kernel_rfl) (by simp [Act.put]) hS.out ?_
  apply Exists.intro
  refine And.intro (fun w' hS' => ?_) ?_
  · go_wp2
    exact ⟨trivial, rfl⟩
  refine pl_take (i := 2) 15 rfl rfl rfl (by kernel_rfl) (by kernel_rfl) (by kernel_rfl) (by simp [Act.put]) hS.out ?_
  apply Exists.intro
  refine And.intro (fun w' hS' => ?_) ?_
  · refine wpList_load_agg rfl 24 (.tmp 3) rfl (⟨w.heap.size, 0, none⟩) rfl (bvs x) _ ((At.block hS'.1).load) Try.underlying24 rfl (by rw [bvs_length, HX.out.1]; exact infoHash) ?_
    clear hS'
    go_wp2
    exact ⟨trivial, rfl⟩
  refine pl_take (i := 3) 16 rfl rfl rfl (by kernel_rfl) (by kernel_rfl) (by kernel_rfl) (by simp [Act.put]) hS.out ?_
  apply Exists.intro
  refine And.intro (fun w' hS' => ?_) ?_
  · refine wpList_load_agg rfl 92 (.tmp 4) rfl ⟨w.heap.size + 1, 0, none⟩ rfl [.int .i64 n, .int .i64 c, .slice a0 N c0] _ (At.block hS'.2.1).load Try.underlying92 rfl (by exact infoPath) ?_
    clear hS'
    go_wp2
    exact ⟨trivial, rfl⟩
  refine pl_heavy (i := 1) rfl (by kernel_rfl) ?_
  go_wp2_with fail
  refine (CR.out w4 hS.out.2.2).mono ?_
  rintro e w5 ⟨rfl, b5⟩
  have S5 := Lib.hid (And.intro (hS.out.1.fresh b5) (And.intro (hS.out.2.1.fresh b5) (hS.out.2.2.fresh b5)))
  have B5 := Lib.hid (B3.out.tr b5)
  clear b5 hS B3
  go_wp2
  refine And.intro S5.out ?_
  refine pl_heavy (i := 4) rfl (by kernel_rfl) ?_
  go_wp2_with fail
  refine (CC.out w5 (H.out.fresh B5.out)).mono ?_
  rintro e w6 ⟨rfl, b6⟩
  have S6 := Lib.hid (And.intro (S5.out.1.fresh b6) (And.intro (S5.out.2.1.fresh b6) (S5.out.2.2.fresh b6)))
  have B6 := Lib.hid (B5.out.tr b6)
  clear b6 S5 B5
  go_wp2
  refine And.intro S6.out ?_
  have hC2 : C = 0 ∨ C = 21 := by
    rw [HX.out.2.2.2.2.2.1]
    unfold checkE
    split
    · exact .inl rfl
    · exact .inr rfl
  rcases hC2 with h0 | h0
  · subst h0
    have h1 : checkE Z x n c hs = 0 := HX.out.2.2.2.2.2.1.symm
    obtain ⟨h2, h3⟩ := checkE_zero h1
    obtain ⟨p, q, rfl, rfl, hpq, hq, hsz⟩ := mayB_ok h2
    have HPQ := Lib.hid (And.intro hpq (And.intro hq (And.intro hsz (show leadB p q x hs = Z by simpa using h3))))
    have bq : (q : Int) ≤ 1048576 := by omega
    clear h1 h2 h3 hpq hq hsz
    refine pl_take (i := 5) 18 rfl rfl rfl (by kernel_rfl) (by kernel_rfl) (by kernel_rfl) (by simp [Act.put]) S6.out ?_
    apply Exists.intro
    refine And.intro (fun w' hS' => ?_) ?_
    · go_wp2
      exact ⟨trivial, rfl⟩
    refine pl_take (i := 6) 19 rfl rfl rfl (by kernel_rfl) (by kernel_rfl) (by kernel_rfl) (by simp [Act.put]) S6.out ?_
    apply Exists.intro
    refine And.intro (fun w' hS' => ?_) ?_
    · go_wp2
      exact ⟨trivial, rfl⟩
    refine pl_take (i := 7) 20 rfl rfl rfl (by kernel_rfl) (by kernel_rfl) (by kernel_rfl) (by simp [Act.put]) S6.out ?_
    apply Exists.intro
    refine And.intro (fun w' hS' => ?_) ?_
    · refine wpList_unguard' rfl ?_
      clear hS'
      go_wp2
      exact ⟨trivial, rfl⟩
    refine pl_take (i := 8) 21 rfl rfl rfl (by kernel_rfl) (by kernel_rfl) (by kernel_rfl) (by simp [Act.put]) S6.out ?_
    apply Exists.intro
    refine And.intro (fun w' hS' => ?_) ?_
    · refine wpList_unguard' rfl ?_
      have hc := hS'.2.1.cell 1 _ rfl
      clear hS'
      go_wp2
      exact ⟨trivial, rfl⟩
    refine pl_take (i := 9) 22 rfl rfl rfl (by kernel_rfl) (by kernel_rfl) (by kernel_rfl) (by simp [Act.put]) S6.out ?_
    apply Exists.intro
    refine And.intro (fun w' hS' => ?_) ?_
    · refine wpList_unguard' rfl ?_
      clear hS'
      go_wp2
      exact ⟨trivial, rfl⟩
    refine pl_take (i := 10) 23 rfl rfl rfl (by kernel_rfl) (by kernel_rfl) (by kernel_rfl) (by simp [Act.put]) S6.out ?_
    apply Exists.intro
    refine And.intro (fun w' hS' => ?_) ?_
    · refine wpList_unguard' rfl ?_
      clear hS'
      go_wp2
      exact ⟨trivial, rfl⟩
    by_cases hqM : q = M
    · have hpM : p < M := by have := HPQ.out.1; omega
      obtain ⟨y, hy⟩ : ∃ y, l[p]? = some y := ⟨_, List.getElem?_eq_getElem (by rw [← HX.out.2.2.2.1]; exact hpM)⟩
      obtain ⟨ad1, c1', he1⟩ := HI.out.isSome HX.out.2.2.2.1.symm (by omega)
      simp only [Value.slice.injEq, true_and] at he1
      obtain ⟨rfl, rfl⟩ := he1
      have HY := Lib.hid (And.intro hy (HI.out.1.get hy))
      have ip : (p : Int) < (M : Int) := by omega
      have e1 : ((q : Int) == (M : Int)) = true := by rw [beq_iff_eq]; omega
      have HQM := Lib.hid hqM
      clear hy hpM hqM
      refine pl_take (i := 11) 24 rfl rfl rfl (by kernel_rfl) (by kernel_rfl) (by kernel_rfl) (by simp [Act.put]) S6.out ?_
      apply Exists.intro
      refine And.intro (fun w' hS' => ?_) ?_
      · refine wpList_unguard' rfl ?_
        clear hS'
        go_wp2
        exact ⟨trivial, rfl⟩
      refine pl_take (i := 12) 25 rfl rfl rfl (by kernel_rfl) (by kernel_rfl) (by kernel_rfl) (by simp [Act.put]) S6.out ?_
      apply Exists.intro
      refine And.intro (fun w' hS' => ?_) ?_
      · refine wpList_unguard' rfl ?_
        clear hS'
        go_wp2
        exact ⟨trivial, rfl⟩
      refine pl_take (i := 13) 26 rfl rfl rfl (by kernel_rfl) (by kernel_rfl) (by kernel_rfl) (by simp [Act.put]) S6.out ?_
      apply Exists.intro
      refine And.intro (fun w' hS' => ?_) ?_
      · refine wpList_unguard' rfl ?_
        clear hS'
        go_wp2
        exact ⟨trivial, rfl⟩
      refine pl_take (i := 14) 27 rfl rfl rfl (by kernel_rfl) (by kernel_rfl) (by kernel_rfl) (by simp [Act.put]) S6.out ?_
      apply Exists.intro
      refine And.intro (fun w' hS' => ?_) ?_
      · refine wpList_unguard' rfl ?_
        clear hS'
        go_wp2
        exact ⟨trivial, rfl⟩
      refine pl_take (i := 15) 28 rfl rfl rfl (by kernel_rfl) (by kernel_rfl) (by kernel_rfl) (by simp [Act.put]) S6.out ?_
      apply Exists.intro
      refine And.intro (fun w' hS' => ?_) ?_
      · refine wpList_unguard' rfl ?_
        have hc := hS'.2.1.cell 0 _ rfl
        clear hS'
        go_wp2
        exact ⟨trivial, rfl⟩
      refine pl_take (i := 16) 29 rfl rfl rfl (by kernel_rfl) (by kernel_rfl) (by kernel_rfl) (by simp [Act.put]) S6.out ?_
      apply Exists.intro
      refine And.intro (fun w' hS' => ?_) ?_
      · refine wpList_unguard' rfl ?_
        clear hS'
        go_wp2
        exact ⟨trivial, rfl⟩
      refine pl_take (i := 17) 30 rfl rfl rfl (by kernel_rfl) (by kernel_rfl) (by kernel_rfl) (by simp [Act.put]) S6.out ?_
      apply Exists.intro
      refine And.intro (fun w' hS' => ?_) ?_
      · refine wpList_unguard' rfl ?_
        refine wpList_load_agg rfl 24 (.tmp 29) rfl (ad1.add (p * 32)) rfl (bvs y) _ (hS'.2.2.elem' HY.out.1) Try.underlying24 rfl (by rw [bvs_length, HY.out.2]; exact infoHash) ?_
        clear hS'
        go_wp2
        exact ⟨trivial, rfl⟩
      refine pl_take (i := 18) 31 rfl rfl rfl (by kernel_rfl) (by kernel_rfl) (by kernel_rfl) (by simp [Act.put]) S6.out ?_
      apply Exists.intro
      refine And.intro (fun w' hS' => ?_) ?_
      · refine wpList_unguard' rfl ?_
        refine wpList_load_agg rfl 24 (.tmp 3) rfl (⟨w.heap.size, 0, none⟩) rfl (bvs x) _ ((At.block hS'.1).load) Try.underlying24 rfl (by rw [bvs_length, HX.out.1]; exact infoHash) ?_
        clear hS'
        go_wp2
        exact ⟨trivial, rfl⟩
      refine pl_take (i := 19) 32 rfl rfl rfl (by kernel_rfl) (by kernel_rfl) (by kernel_rfl) (by simp [Act.put]) S6.out ?_
      apply Exists.intro
      refine And.intro (fun w' hS' => ?_) ?_
      · refine wpList_unguard' rfl ?_
        refine wpList_bin rfl .eql 24 24 (.tmp 30) (.tmp 31) rfl (.bool (y == x)) (eqGuard_agg _ _ _ _ _ _ _ (by kernel_rfl)) (hash_eq w' y x HY.out.2 HX.out.1) ?_
        clear hS'
        go_wp2
        exact ⟨trivial, rfl⟩
      cases hyx : (y == x)
      · have hT0 : T = true := by
          rw [HX.out.2.2.2.2.2.2.1, collB, rightB, ← HX.out.2.2.2.2.1, ← HX.out.2.2.2.2.2.1, ← HX.out.2.2.2.1]
          have h1 : l.getD p [] = y := by rw [List.getD_eq_getElem?_getD, HY.out.1]; rfl
          have h2 : l.getD ((p : Int).toNat) [] = y := h1
          rw [h2, hyx]
          simp
        subst hT0
        have HYX : Hid (y ≠ x) := Lib.hid (by simpa using hyx)
        clear hyx
        refine pl_take (i := 20) 33 rfl rfl rfl (by kernel_rfl) (by kernel_rfl) (by kernel_rfl) (by simp [Act.put]) S6.out ?_
        apply Exists.intro
        refine And.intro (fun w' hS' => ?_) ?_
        · refine wpList_unguard' rfl ?_
          clear hS'
          go_wp2
          exact ⟨trivial, rfl⟩
        refine pl_take (i := 21) 34 rfl rfl rfl (by kernel_rfl) (by kernel_rfl) (by kernel_rfl) (by simp [Act.put]) S6.out ?_
        apply Exists.intro
        refine And.intro (fun w' hS' => ?_) ?_
        · go_wp2
          exact ⟨trivial, rfl⟩
        refine pl_done (by kernel_rfl) ?_
        go_wp2_with (with_reducible refine stopAt 35 ?_)
        refine Stop.go ?_
        refine wpList_load_agg rfl 24 (.tmp 3) rfl (⟨w.heap.size, 0, none⟩) rfl (bvs x) _ ((At.block S6.out.1).load) Try.underlying24 rfl (by rw [bvs_length, HX.out.1]; exact infoHash) ?_
        go_wp2_with (with_reducible refine stopAt 36 ?_)
        refine Stop.go ?_
        refine wpList_load_agg rfl 92 (.tmp 4) rfl ⟨w.heap.size + 1, 0, none⟩ rfl [.int .i64 (p : Int), .int .i64 (q : Int), .slice a0 N c0] _ (At.block S6.out.2.1).load Try.underlying92 rfl (by exact infoPath) ?_
        go_wp2_with fail
        refine (way_any w6 x p q (.slice a0 N c0) hs HX.out.1 (H.out.fresh B6.out) HPQ.out.1 HPQ.out.2.1 HPQ.out.2.2.1).mono ?_
        rintro e w7 ⟨v9, zs, Ps, g, gt, rfl, hzs, hPl, hPg, ho, hw, hg, b7⟩
        obtain ⟨a9, c9, rfl⟩ := own_slice ho
        have ZS := Lib.hid (And.intro hzs (And.intro hPl hPg))
        have O7 := Lib.hid ho
        have W7 := Lib.hid hw
        have G7 := Lib.hid hg
        have B7 := Lib.hid (B6.out.tr b7)
        have Z67 : Hid (w.heap.size ≤ w6.heap.size ∧ w.heap.size ≤ w7.heap.size) := Lib.hid ⟨B6.out.size, B7.out.size⟩
        obtain ⟨m, hm⟩ : ∃ m, m = Ps.length + 1 := ⟨_, rfl⟩
        have HM : Hid (m = zs.length + 2 ∧ m = Ps.length + 1 ∧ m ≤ 22) := Lib.hid ⟨by rw [hm, hPl], hm, by
          rw [hm, hPl, hzs, List.length_zip]
          have := sizeM_le 20 p q
          have := HPQ.out.2.2.1
          omega⟩
        rw [← hm] at O7 W7 G7 ⊢
        clear hzs hPl hPg ho hw hg b7 hm
        go_wp2_with fail
        refine (reverse_own w7 w6.heap.size m (.slice a9 m c9) (Ps ++ [gt]) O7.out (by simp; have := HM.out.2.1; omega) (by have := HM.out.1; omega) (by have := HM.out.2.2; omega)).mono ?_
        rintro e w8 ⟨rfl, g8, r8⟩
        have W8 := Lib.hid (W7.out.kept g8 (fun k hk => hk))
        have G8 := Lib.hid (G7.out.kept g8 (fun k hk => hk))
        have R8 := Lib.hid r8
        have B8 : Hid (Below w.heap.size w w8) := Lib.hid (B7.out.grown g8 Z67.out.2 (fun j hj => Nat.le_trans Z67.out.1 (O7.out.lt j hj).1))
        clear g8 r8 W7 G7 O7
        go_wp2_with fail
        refine (tree_own w8 _ l (HI.out.fresh B8.out) HX.out.2.1 q x zs (dirsM 20 p q)).mono ?_
        rintro e w9 ⟨o0, rfl, ow, b9⟩
        have W9 := Lib.hid (W8.out.fresh b9)
        have G9 := Lib.hid (G8.out.fresh b9)
        have R9 := Lib.hid (R8.out.fresh b9)
        have B9 := Lib.hid (B8.out.tr b9)
        have OW := Lib.hid ow
        obtain ⟨F9, hF9⟩ : ∃ F, F = OKb w7 (.slice a9 m c9) := ⟨_, rfl⟩
        rw [← hF9] at W9 G9
        have HNE : Hid (¬ (q = l.length ∧ l.getD p [] = x) ∧ topB q (wh x zs zs.length) = rootB l) := Lib.hid ⟨(fun h => HYX.out (by rw [← h.2, List.getD_eq_getElem?_getD, HY.out.1]; rfl)), by
          rw [← way_root HPQ.out.1 HPQ.out.2.1 HPQ.out.2.2.1 ZS.out.1, ← HX.out.2.2.2.2.1]
          exact HPQ.out.2.2.2⟩
        obtain ⟨ad9, c9', he9⟩ := R9.out.isSome (by have := HM.out.1; omega)
        simp only [Value.slice.injEq, true_and] at he9
        obtain ⟨rfl, rfl⟩ := he9
        have m1 : (1 : Int) ≤ (m : Int) := by have := HM.out.1; omega
        have m22 : (m : Int) ≤ 22 := by have := HM.out.2.2; omega
        clear W8 G8 R8 B8 ow b9 hF9
        go_wp2
        go_loopw [10, 44] (fun v10 v44 wr => ∃ (i o : Nat), i ≤ zs.length + 1 ∧ v44 = .int .i64 (i : Int) ∧ v10 = .pointer (some ⟨o, 0, none⟩) ∧ OwnAt wr l q x zs (dirsM 20 p q) i o ∧ Below w9.heap.size w9 wr)
          (fun _ v _ => m - (RowKit.intOf v).toNat)
        case atStart => exact ⟨0, o0, Nat.zero_le _, rfl, rfl, OW.out, Below.refl _ _⟩
        case round =>
          obtain ⟨i, o, hil, rfl, rfl, how, hb⟩ := hrel
          obtain ⟨gx, hX, X, kX, hO, O, kO, hgx, nX, nO, hsh, hle, hgo⟩ := level (W9.out.fresh hb) ZS.out.2.2 (G9.out.fresh hb) ZS.out.1 rfl HPQ.out.1 HPQ.out.2.1 HPQ.out.2.2.1 HNE.out.2 HX.out.2.1 HNE.out.1 HI.out.1 HX.out.1 hil how
          obtain ⟨hXl, hXF, vX, uX, cX, rX, dX, _, _⟩ := nX
          obtain ⟨hOl, _, vO, uO, cO, rO, dO, _, _⟩ := nO
          have im : (i : Int) < (m : Int) := by have := HM.out.1; omega
          have hup := (R9.out.fresh hb).ptr (i := i) (g := gx) (by
            rw [List.getElem?_reverse (by simp; have := HM.out; omega), ← hgx]
            congr 1
            simp
            have := HM.out
            omega)
          have bd := hb.drew
          have SH := Lib.hid (And.intro hsh (And.intro hgo (And.intro hgx hil)))
          have HB9 := Lib.hid hb
          have LE := Lib.hid hle
          have OWi := Lib.hid how
          have XL := Lib.hid (And.intro hXl hOl)
          have DD := Lib.hid (And.intro dX dO)
          have hS : Hid (CB wr.drew 166 gx (bvs hX ++ [vX, uX]) ∧ CB wr.drew 166 o (bvs hO ++ [vO, uO]) ∧ Rd wr.drew 1 vX X.length (bvs X) ∧ Rd wr.drew 1 vO O.length (bvs O)) := Lib.hid ⟨cX.fresh ((Below.refl _ wr).drew), cO.fresh ((Below.refl _ wr).drew), rX.fresh ((Below.refl _ wr).drew), rO.fresh ((Below.refl _ wr).drew)⟩
          have HN := Lib.hid (And.intro cX cO)
          clear hsh hle hgo hgx hb how hXl hOl dX dO cX cO rX rO hXF bd
          go_wp2_with fail
          refine pl_start 11 rfl (fun w' => CB w' 166 gx (bvs hX ++ [vX, uX]) ∧ CB w' 166 o (bvs hO ++ [vO, uO]) ∧ Rd w' 1 vX X.length (bvs X) ∧ Rd w' 1 vO O.length (bvs O)) (by kernel_rfl) ?_
          refine pl_take (i := 0) 49 rfl rfl rfl (by kernel_rfl) (by kernel_rfl) (by kernel_rfl) (by simp [Act.put]) hS.out ?_
          apply Exists.intro
          refine And.intro (fun w' hS' => ?_) ?_
          · go_wp2
            exact ⟨trivial, rfl⟩
          refine pl_take (i := 1) 50 rfl rfl rfl (by kernel_rfl) (by kernel_rfl) (by kernel_rfl) (by simp [Act.put]) hS.out ?_
          apply Exists.intro
          refine And.intro (fun w' hS' => ?_) ?_
          · go_wp2
            exact ⟨trivial, rfl⟩
          refine pl_take (i := 2) 51 rfl rfl rfl (by kernel_rfl) (by kernel_rfl) (by kernel_rfl) (by simp [Act.put]) hS.out ?_
          apply Exists.intro
          refine And.intro (fun w' hS' => ?_) ?_
          · go_wp2
            exact ⟨trivial, rfl⟩
          refine pl_take (i := 3) 52 rfl rfl rfl (by kernel_rfl) (by kernel_rfl) (by kernel_rfl) (by simp [Act.put]) hS.out ?_
          apply Exists.intro
          refine And.intro (fun w' hS' => ?_) ?_
          · have hc := hS'.1.cell 32 _ (node32 XL.out.1).1
            clear hS'
            go_wp2
            exact ⟨trivial, rfl⟩
          refine pl_take (i := 4) 53 rfl rfl rfl (by kernel_rfl) (by kernel_rfl) (by kernel_rfl) (by simp [Act.put]) hS.out ?_
          apply Exists.intro
          refine And.intro (fun w' hS' => ?_) ?_
          · have hv := hS'.2.2.1.conv (P := Try.prog) 42 9 5 Try.underlying42 Try.underlying5 Try.underlying9
            clear hS'
            go_wp2
            exact ⟨trivial, rfl⟩
          refine pl_take (i := 5) 54 rfl rfl rfl (by kernel_rfl) (by kernel_rfl) (by kernel_rfl) (by simp [Act.put]) hS.out ?_
          apply Exists.intro
          refine And.intro (fun w' hS' => ?_) ?_
          · go_wp2
            exact ⟨trivial, rfl⟩
          refine pl_take (i := 6) 55 rfl rfl rfl (by kernel_rfl) (by kernel_rfl) (by kernel_rfl) (by simp [Act.put]) hS.out ?_
          apply Exists.intro
          refine And.intro (fun w' hS' => ?_) ?_
          · go_wp2
            exact ⟨trivial, rfl⟩
          refine pl_take (i := 7) 56 rfl rfl rfl (by kernel_rfl) (by kernel_rfl) (by kernel_rfl) (by simp [Act.put]) hS.out ?_
          apply Exists.intro
          refine And.intro (fun w' hS' => ?_) ?_
          · go_wp2
            exact ⟨trivial, rfl⟩
          refine pl_take (i := 8) 57 rfl rfl rfl (by kernel_rfl) (by kernel_rfl) (by kernel_rfl) (by simp [Act.put]) hS.out ?_
          apply Exists.intro
          refine And.intro (fun w' hS' => ?_) ?_
          · have hc := hS'.2.1.cell 32 _ (node32 XL.out.2).1
            clear hS'
            go_wp2
            exact ⟨trivial, rfl⟩
          refine pl_take (i := 9) 58 rfl rfl rfl (by kernel_rfl) (by kernel_rfl) (by kernel_rfl) (by simp [Act.put]) hS.out ?_
          apply Exists.intro
          refine And.intro (fun w' hS' => ?_) ?_
          · have hv := hS'.2.2.2.conv (P := Try.prog) 42 9 5 Try.underlying42 Try.underlying5 Try.underlying9
            clear hS'
            go_wp2
            exact ⟨trivial, rfl⟩
          refine pl_take (i := 10) 59 rfl rfl rfl (by kernel_rfl) (by kernel_rfl) (by kernel_rfl) (by simp [Act.put]) hS.out ?_
          apply Exists.intro
          refine And.intro (fun w' hS' => ?_) ?_
          · refine wpList_bin rfl .neq 9 9 (.tmp 53) (.tmp 58) rfl (.bool (X != O)) (str_guard _ _ _ _ _ _) (str_neq w' X O) ?_
            clear hS'
            go_wp2
            exact ⟨trivial, rfl⟩
          by_cases hXO : X = O
          · have hq : (X != O) = false := by rw [hXO]; simp
            rw [hq]
            subst hXO
            clear hq
            refine pl_done (by kernel_rfl) ?_
            obtain ⟨hiz, hk2, idx, pp, o', hidx, hup2, hkx, hpast, hko, how2⟩ := SH.out.2.1 rfl
            obtain ⟨gX, hgX, cKX⟩ : ∃ gX, uX = .slice (some ⟨gX, 0, none⟩) kX.length kX.length ∧ CB wr 163 gX (kX.map fun k => .pointer (some ⟨k, 0, none⟩)) := by
              rcases DD.out.1 with ⟨h1, _⟩ | h1
              · rw [h1] at hkx; cases hkx
              · exact h1
            obtain ⟨gO, hgO, cKO⟩ : ∃ gO, uO = .slice (some ⟨gO, 0, none⟩) kO.length kO.length ∧ CB wr 163 gO (kO.map fun k => .pointer (some ⟨k, 0, none⟩)) := by
              rcases DD.out.2 with ⟨h1, _⟩ | h1
              · rw [h1] at hko; cases hko
              · exact h1
            obtain ⟨lX, hlX⟩ : ∃ n, n = kX.length := ⟨_, rfl⟩
            obtain ⟨lO, hlO⟩ : ∃ n, n = kO.length := ⟨_, rfl⟩
            rw [← hlX] at hgX
            rw [← hlO] at hgO
            subst hgX
            subst hgO
            have hidO : idx < lO := by rw [hlO]; exact (List.getElem?_eq_some_iff.1 hko).1
            have hidX : idx < lX := by rw [hlX]; exact (List.getElem?_eq_some_iff.1 hkx).1
            have e1 : ((i : Int) + 1 == (m : Int)) = false := by rw [beq_eq_false_iff_ne]; have := HM.out.1; omega
            have e2 : ((lO : Int) == 0) = false := by rw [beq_eq_false_iff_ne]; omega
            have im1 : (i : Int) + 1 < (m : Int) := by have := HM.out.1; omega
            have c33 := hS.out.2.1.cell 33 _ (node32 XL.out.2).2
            have OX := Lib.hid (And.intro hk2 (And.intro hkx (And.intro hpast (And.intro hko (And.intro how2 (And.intro hlX hlO))))))
            have KK := Lib.hid (And.intro cKX cKO)
            have UP2 := Lib.hid hup2
            have IZ := Lib.hid (And.intro hiz hidx)
            clear hiz hk2 hidx hup2 hkx hpast hko how2 cKX cKO hlX hlO
            go_wp2_with fail
            have hPP : Hid (∃ cg tg, wr.heap[pp]? = some (.cells cg tg (0, 0))) := Lib.hid (by
              have h1 := UP2.out
              rw [List.getElem?_append_left (by have := ZS.out.2.1; omega)] at h1
              obtain ⟨kk, h2, _⟩ := (W9.out.fresh HB9.out).2 _ _ h1
              obtain ⟨_, _, vb, vk, h3, _⟩ := h2
              exact ⟨_, _, h3⟩)
            have hup3 : Hid (wr.cell? (ad9.add (i + 1)) = some (.pointer (some ⟨pp, 0, none⟩))) := Lib.hid ((R9.out.fresh HB9.out).ptr (i := i + 1) (g := pp) (by
              rw [List.getElem?_reverse (by simp; have := HM.out; have := IZ.out.1; omega), ← UP2.out]
              congr 1
              simp
              have := HM.out
              omega))
            have hko3 : Hid (wr.cell? ⟨gO, idx, none⟩ = some (.pointer (some ⟨o', 0, none⟩))) := Lib.hid (KK.out.2.cell idx _ (by rw [List.getElem?_map, OX.out.2.2.2.1]; rfl))
            have hRX : Hid (Rd wr 1 (.slice (some ⟨gX, 0, none⟩) lX lX) lX (pvs kX)) := Lib.hid ⟨by simp [OX.out.2.2.2.2.2.1], .inr ⟨_, _, rfl, Nat.le_refl _, by have := OX.out.1; have := OX.out.2.2.2.2.2.1; unfold maxLen; omega, fun j u hj => by
              rw [add_at, Nat.zero_add]
              exact KK.out.1.cell j u hj⟩⟩
            have bb2 : Below wr.heap.size wr wr.drew.drew := ((Below.refl _ wr).drew).drew
            have hS2 : Hid (CB wr.drew.drew 166 gx (bvs hX ++ [vX, .slice (some ⟨gX, 0, none⟩) lX lX]) ∧ CB wr.drew.drew 166 o (bvs hO ++ [vO, .slice (some ⟨gO, 0, none⟩) lO lO]) ∧ wr.drew.drew.cell? (ad9.add (i + 1)) = some (.pointer (some ⟨pp, 0, none⟩)) ∧ wr.drew.drew.cell? ((⟨gO, 0, none⟩ : Addr).add idx) = some (.pointer (some ⟨o', 0, none⟩))) := Lib.hid ⟨HN.out.1.fresh bb2, HN.out.2.fresh bb2, hup3.out, by rw [add_at, Nat.zero_add]; exact hko3.out⟩
            have BF := Lib.hid HB9.out.drew.drew
            clear bb2 c33
            refine pl_start 17 rfl (fun w' => CB w' 166 gx (bvs hX ++ [vX, .slice (some ⟨gX, 0, none⟩) lX lX]) ∧ CB w' 166 o (bvs hO ++ [vO, .slice (some ⟨gO, 0, none⟩) lO lO]) ∧ w'.cell? (ad9.add (i + 1)) = some (.pointer (some ⟨pp, 0, none⟩)) ∧ w'.cell? ((⟨gO, 0, none⟩ : Addr).add idx) = some (.pointer (some ⟨o', 0, none⟩))) (by kernel_rfl) ?_
            refine pl_take (i := 0) 81 rfl rfl rfl (by kernel_rfl) (by kernel_rfl) (by kernel_rfl) (by simp [Act.put]) hS2.out ?_
            apply Exists.intro
            refine And.intro (fun w' hS' => ?_) ?_
            · go_wp2
              exact ⟨trivial, rfl⟩
            refine pl_take (i := 1) 82 rfl rfl rfl (by kernel_rfl) (by kernel_rfl) (by kernel_rfl) (by simp [Act.put]) hS2.out ?_
            apply Exists.intro
            refine And.intro (fun w' hS' => ?_) ?_
            · go_wp2
              exact ⟨trivial, rfl⟩
            refine pl_take (i := 2) 83 rfl rfl rfl (by kernel_rfl) (by kernel_rfl) (by kernel_rfl) (by simp [Act.put]) hS2.out ?_
            apply Exists.intro
            refine And.intro (fun w' hS' => ?_) ?_
            · go_wp2
              exact ⟨trivial, rfl⟩
            refine pl_take (i := 3) 84 rfl rfl rfl (by kernel_rfl) (by kernel_rfl) (by kernel_rfl) (by simp [Act.put]) hS2.out ?_
            apply Exists.intro
            refine And.intro (fun w' hS' => ?_) ?_
            · have hc := hS'.2.1.cell 33 _ (node32 XL.out.2).2
              clear hS'
              go_wp2
              exact ⟨trivial, rfl⟩
            refine pl_take (i := 4) 85 rfl rfl rfl (by kernel_rfl) (by kernel_rfl) (by kernel_rfl) (by simp [Act.put]) hS2.out ?_
            apply Exists.intro
            refine And.intro (fun w' hS' => ?_) ?_
            · go_wp2
              exact ⟨trivial, rfl⟩
            refine pl_take (i := 5) 86 rfl rfl rfl (by kernel_rfl) (by kernel_rfl) (by kernel_rfl) (by simp [Act.put]) hS2.out ?_
            apply Exists.intro
            refine And.intro (fun w' hS' => ?_) ?_
            · go_wp2
              exact ⟨trivial, rfl⟩
            refine pl_take (i := 6) 87 rfl rfl rfl (by kernel_rfl) (by kernel_rfl) (by kernel_rfl) (by simp [Act.put]) hS2.out ?_
            apply Exists.intro
            refine And.intro (fun w' hS' => ?_) ?_
            · go_wp2
              exact ⟨trivial, rfl⟩
            refine pl_take (i := 7) 88 rfl rfl rfl (by kernel_rfl) (by kernel_rfl) (by kernel_rfl) (by simp [Act.put]) hS2.out ?_
            apply Exists.intro
            refine And.intro (fun w' hS' => ?_) ?_
            · have hc := hS'.1.cell 33 _ (node32 XL.out.1).2
              clear hS'
              go_wp2
              exact ⟨trivial, rfl⟩
            refine pl_take (i := 8) 89 rfl rfl rfl (by kernel_rfl) (by kernel_rfl) (by kernel_rfl) (by simp [Act.put]) hS2.out ?_
            apply Exists.intro
            refine And.intro (fun w' hS' => ?_) ?_
            · go_wp2
              exact ⟨trivial, rfl⟩
            refine pl_take (i := 9) 90 rfl rfl rfl (by kernel_rfl) (by kernel_rfl) (by kernel_rfl) (by simp [Act.put]) hS2.out ?_
            apply Exists.intro
            refine And.intro (fun w' hS' => ?_) ?_
            · go_wp2
              exact ⟨trivial, rfl⟩
            refine pl_take (i := 10) 91 rfl rfl rfl (by kernel_rfl) (by kernel_rfl) (by kernel_rfl) (by simp [Act.put]) hS2.out ?_
            apply Exists.intro
            refine And.intro (fun w' hS' => ?_) ?_
            · go_wp2
              exact ⟨trivial, rfl⟩
            refine pl_take (i := 11) 92 rfl rfl rfl (by kernel_rfl) (by kernel_rfl) (by kernel_rfl) (by simp [Act.put]) hS2.out ?_
            apply Exists.intro
            refine And.intro (fun w' hS' => ?_) ?_
            · go_wp2
              exact ⟨trivial, rfl⟩
            refine pl_take (i := 12) 93 rfl rfl rfl (by kernel_rfl) (by kernel_rfl) (by kernel_rfl) (by simp [Act.put]) hS2.out ?_
            apply Exists.intro
            refine And.intro (fun w' hS' => ?_) ?_
            · have hc := hS'.2.2.1
              rw [Addr.add_succ'] at hc
              clear hS'
              go_wp2
              exact ⟨trivial, rfl⟩
            refine pl_heavy (i := 13) rfl (by kernel_rfl) ?_
            go_wp2_with fail
            refine (index_any wr.drew.drew ⟨gX, 0, none⟩ lX lX kX pp idx (hRX.out.fresh (show Below wr.heap.size wr wr.drew.drew from ((Below.refl _ wr).drew).drew)) OX.out.2.2.2.2.2.1.symm (by have := OX.out.1; have := OX.out.2.2.2.2.2.1; omega) OX.out.2.1 OX.out.2.2.1 hPP.out).mono ?_
            rintro e wx ⟨rfl, rfl⟩
            go_wp2
            refine And.intro hS2.out ?_
            refine pl_take (i := 14) 95 rfl rfl rfl (by kernel_rfl) (by kernel_rfl) (by kernel_rfl) (by simp [Act.put]) hS2.out ?_
            apply Exists.intro
            refine And.intro (fun w' hS' => ?_) ?_
            · go_wp2
              exact ⟨trivial, rfl⟩
            refine pl_take (i := 15) 96 rfl rfl rfl (by kernel_rfl) (by kernel_rfl) (by kernel_rfl) (by simp [Act.put]) hS2.out ?_
            apply Exists.intro
            refine And.intro (fun w' hS' => ?_) ?_
            · have hc := hS'.2.2.2
              rw [add_at, Nat.zero_add] at hc
              clear hS'
              go_wp2
              exact ⟨trivial, rfl⟩
            refine pl_take (i := 16) 10 rfl rfl rfl (by kernel_rfl) (by kernel_rfl) (by kernel_rfl) (by simp [Act.put]) hS2.out ?_
            apply Exists.intro
            refine And.intro (fun w' hS' => ?_) ?_
            · go_wp2
              exact ⟨trivial, rfl⟩
            refine pl_done (by kernel_rfl) ?_
            go_wp2
            go_roundw
            case rel => exact ⟨i + 1, o', by have := IZ.out.1; omega, by go_num, rfl, OX.out.2.2.2.2.1.fresh (show Below wr.heap.size wr wr.drew.drew from ((Below.refl _ wr).drew).drew), BF.out⟩
            case measure => simp only [RowKit.intOf]; omega
          · have hq : (X != O) = true := by simpa using hXO
            rw [hq]
            clear hq
            have HXO := Lib.hid hXO
            clear hXO
            refine pl_done (by kernel_rfl) ?_
            go_wp2_with fail
            have hS2 : Hid (CB wr.drew.drew 166 gx (bvs hX ++ [vX, uX]) ∧ CB wr.drew.drew 166 o (bvs hO ++ [vO, uO]) ∧ Rd wr.drew.drew 1 vX X.length (bvs X) ∧ Rd wr.drew.drew 1 vO O.length (bvs O)) := Lib.hid ⟨hS.out.1.fresh ((Below.refl _ wr.drew).drew), hS.out.2.1.fresh ((Below.refl _ wr.drew).drew), hS.out.2.2.1.fresh ((Below.refl _ wr.drew).drew), hS.out.2.2.2.fresh ((Below.refl _ wr.drew).drew)⟩
            have BF : Hid (Below w.heap.size w wr.drew.drew) := Lib.hid (B9.out.tr HB9.out).drew.drew
            refine pl_start 11 rfl (fun w' => CB w' 166 gx (bvs hX ++ [vX, uX]) ∧ CB w' 166 o (bvs hO ++ [vO, uO]) ∧ Rd w' 1 vX X.length (bvs X) ∧ Rd w' 1 vO O.length (bvs O)) (by kernel_rfl) ?_
            refine pl_take (i := 0) 60 rfl rfl rfl (by kernel_rfl) (by kernel_rfl) (by kernel_rfl) (by simp [Act.put]) hS2.out ?_
            apply Exists.intro
            refine And.intro (fun w' hS' => ?_) ?_
            · go_wp2
              exact ⟨trivial, rfl⟩
            refine pl_take (i := 1) 61 rfl rfl rfl (by kernel_rfl) (by kernel_rfl) (by kernel_rfl) (by simp [Act.put]) hS2.out ?_
            apply Exists.intro
            refine And.intro (fun w' hS' => ?_) ?_
            · go_wp2
              exact ⟨trivial, rfl⟩
            refine pl_take (i := 2) 62 rfl rfl rfl (by kernel_rfl) (by kernel_rfl) (by kernel_rfl) (by simp [Act.put]) hS2.out ?_
            apply Exists.intro
            refine And.intro (fun w' hS' => ?_) ?_
            · go_wp2
              exact ⟨trivial, rfl⟩
            refine pl_take (i := 3) 63 rfl rfl rfl (by kernel_rfl) (by kernel_rfl) (by kernel_rfl) (by simp [Act.put]) hS2.out ?_
            apply Exists.intro
            refine And.intro (fun w' hS' => ?_) ?_
            · have hc := hS'.1.cell 32 _ (node32 XL.out.1).1
              clear hS'
              go_wp2
              exact ⟨trivial, rfl⟩
            refine pl_take (i := 4) 64 rfl rfl rfl (by kernel_rfl) (by kernel_rfl) (by kernel_rfl) (by simp [Act.put]) hS2.out ?_
            apply Exists.intro
            refine And.intro (fun w' hS' => ?_) ?_
            · go_wp2
              exact ⟨trivial, rfl⟩
            refine pl_take (i := 5) 65 rfl rfl rfl (by kernel_rfl) (by kernel_rfl) (by kernel_rfl) (by simp [Act.put]) hS2.out ?_
            apply Exists.intro
            refine And.intro (fun w' hS' => ?_) ?_
            · go_wp2
              exact ⟨trivial, rfl⟩
            refine pl_take (i := 6) 66 rfl rfl rfl (by kernel_rfl) (by kernel_rfl) (by kernel_rfl) (by simp [Act.put]) hS2.out ?_
            apply Exists.intro
            refine And.intro (fun w' hS' => ?_) ?_
            · go_wp2
              exact ⟨trivial, rfl⟩
            refine pl_take (i := 7) 67 rfl rfl rfl (by kernel_rfl) (by kernel_rfl) (by kernel_rfl) (by simp [Act.put]) hS2.out ?_
            apply Exists.intro
            refine And.intro (fun w' hS' => ?_) ?_
            · have hc := hS'.2.1.cell 32 _ (node32 XL.out.2).1
              clear hS'
              go_wp2
              exact ⟨trivial, rfl⟩
            refine pl_take (i := 8) 6 rfl rfl rfl (by kernel_rfl) (by kernel_rfl) (by kernel_rfl) (by simp [Act.put]) hS2.out ?_
            apply Exists.intro
            refine And.intro (fun w' hS' => ?_) ?_
            · go_wp2
              exact ⟨trivial, rfl⟩
            refine pl_take (i := 9) 7 rfl rfl rfl (by kernel_rfl) (by kernel_rfl) (by kernel_rfl) (by simp [Act.put]) hS2.out ?_
            apply Exists.intro
            refine And.intro (fun w' hS' => ?_) ?_
            · go_wp2
              exact ⟨trivial, rfl⟩
            refine pl_take (i := 10) 8 rfl rfl rfl (by kernel_rfl) (by kernel_rfl) (by kernel_rfl) (by simp [Act.put]) hS2.out ?_
            apply Exists.intro
            refine And.intro (fun w' hS' => ?_) ?_
            · go_wp2
              exact ⟨trivial, rfl⟩
            refine pl_done (by kernel_rfl) ?_
            go_wp2
            go_ret3
            exact ⟨_, _, rfl, .inr ⟨rfl, X, O, LE.out, hS2.out.2.2.1, hS2.out.2.2.2, HXO.out, SH.out.1⟩, BF.out⟩
      · have hT0 : T = false := by
          rw [HX.out.2.2.2.2.2.2.1, collB, rightB, ← HX.out.2.2.2.2.1, ← HX.out.2.2.2.2.2.1, ← HX.out.2.2.2.1]
          have h1 : l.getD p [] = y := by rw [List.getD_eq_getElem?_getD, HY.out.1]; rfl
          have h2 : l.getD ((p : Int).toNat) [] = y := h1
          rw [h2, hyx]
          simp [HQM.out]
        subst hT0
        clear hyx
        refine pl_take (i := 20) 33 rfl rfl rfl (by kernel_rfl) (by kernel_rfl) (by kernel_rfl) (by simp [Act.put]) S6.out ?_
        apply Exists.intro
        refine And.intro (fun w' hS' => ?_) ?_
        · refine wpList_unguard' rfl ?_
          clear hS'
          go_wp2
          exact ⟨trivial, rfl⟩
        refine pl_take (i := 21) 34 rfl rfl rfl (by kernel_rfl) (by kernel_rfl) (by kernel_rfl) (by simp [Act.put]) S6.out ?_
        apply Exists.intro
        refine And.intro (fun w' hS' => ?_) ?_
        · go_wp2
          exact ⟨trivial, rfl⟩
        refine pl_done (by kernel_rfl) ?_
        go_wp2
        go_ret3
        exact ⟨_, _, rfl, .inl ⟨rfl, rfl, rfl⟩, B6.out⟩
    · have hT0 : T = true := by
        rw [HX.out.2.2.2.2.2.2.1, collB, rightB, ← HX.out.2.2.2.2.1, ← HX.out.2.2.2.2.2.1, ← HX.out.2.2.2.1]
        have : ¬ ((q : Int) = (M : Int)) := by omega
        simp [this]
      subst hT0
      have e1 : ((q : Int) == (M : Int)) = false := by rw [beq_eq_false_iff_ne]; omega
      refine pl_take (i := 11) 24 rfl rfl rfl (by kernel_rfl) (by kernel_rfl) (by kernel_rfl) (by simp [Act.put]) S6.out ?_
      apply Exists.intro
      refine And.intro (fun w' hS' => ?_) ?_
      · refine wpList_unguard' rfl ?_
        clear hS'
        go_wp2
        exact ⟨trivial, rfl⟩
      refine pl_take (i := 12) 25 rfl rfl rfl (by kernel_rfl) (by kernel_rfl) (by kernel_rfl) (by simp [Act.put]) S6.out ?_
      apply Exists.intro
      refine And.intro (fun w' hS' => ?_) ?_
      · refine wpList_unguard' rfl ?_
        clear hS'
        go_wp2
        exact ⟨trivial, rfl⟩
      refine pl_skip (i := 13) rfl (by kernel_rfl) (by kernel_rfl) (by kernel_rfl) (by kernel_rfl) S6.out ?_
      apply Exists.intro
      refine And.intro (by simp [Act.put, go_sem]; rfl) ?_
      refine pl_skip (i := 14) rfl (by kernel_rfl) (by kernel_rfl) (by kernel_rfl) (by kernel_rfl) S6.out ?_
      apply Exists.intro
      refine And.intro (by simp [Act.put, go_sem]; rfl) ?_
      refine pl_skip (i := 15) rfl (by kernel_rfl) (by kernel_rfl) (by kernel_rfl) (by kernel_rfl) S6.out ?_
      apply Exists.intro
      refine And.intro (by simp [Act.put, go_sem]; rfl) ?_
      refine pl_skip (i := 16) rfl (by kernel_rfl) (by kernel_rfl) (by kernel_rfl) (by kernel_rfl) S6.out ?_
      apply Exists.intro
      refine And.intro (by simp [Act.put, go_sem]; rfl) ?_
      refine pl_skip (i := 17) rfl (by kernel_rfl) (by kernel_rfl) (by kernel_rfl) (by kernel_rfl) S6.out ?_
      apply Exists.intro
      refine And.intro (by simp [Act.put, go_sem]; rfl) ?_
      refine pl_skip (i := 18) rfl (by kernel_rfl) (by kernel_rfl) (by kernel_rfl) (by kernel_rfl) S6.out ?_
      apply Exists.intro
      refine And.intro (by simp [Act.put, go_sem]; rfl) ?_
      refine pl_skip (i := 19) rfl (by kernel_rfl) (by kernel_rfl) (by kernel_rfl) (by kernel_rfl) S6.out ?_
      apply Exists.intro
      refine And.intro (by simp [Act.put, go_sem]; rfl) ?_
      refine pl_take (i := 20) 33 rfl rfl rfl (by kernel_rfl) (by kernel_rfl) (by kernel_rfl) (by simp [Act.put]) S6.out ?_
      apply Exists.intro
      refine And.intro (fun w' hS' => ?_) ?_
      · refine wpList_unguard' rfl ?_
        clear hS'
        go_wp2
        exact ⟨trivial, rfl⟩
      refine pl_take (i := 21) 34 rfl rfl rfl (by kernel_rfl) (by kernel_rfl) (by kernel_rfl) (by simp [Act.put]) S6.out ?_
      apply Exists.intro
      refine And.intro (fun w' hS' => ?_) ?_
      · go_wp2
        exact ⟨trivial, rfl⟩
      refine pl_done (by kernel_rfl) ?_
      go_wp2_with (with_reducible refine stopAt 35 ?_)
      refine Stop.go ?_
      refine wpList_load_agg rfl 24 (.tmp 3) rfl (⟨w.heap.size, 0, none⟩) rfl (bvs x) _ ((At.block S6.out.1).load) Try.underlying24 rfl (by rw [bvs_length, HX.out.1]; exact infoHash) ?_
      go_wp2_with (with_reducible refine stopAt 36 ?_)
      refine Stop.go ?_
      refine wpList_load_agg rfl 92 (.tmp 4) rfl ⟨w.heap.size + 1, 0, none⟩ rfl [.int .i64 (p : Int), .int .i64 (q : Int), .slice a0 N c0] _ (At.block S6.out.2.1).load Try.underlying92 rfl (by exact infoPath) ?_
      go_wp2_with fail
      refine (way_any w6 x p q (.slice a0 N c0) hs HX.out.1 (H.out.fresh B6.out) HPQ.out.1 HPQ.out.2.1 HPQ.out.2.2.1).mono ?_
      rintro e w7 ⟨v9, zs, Ps, g, gt, rfl, hzs, hPl, hPg, ho, hw, hg, b7⟩
      obtain ⟨a9, c9, rfl⟩ := own_slice ho
      have ZS := Lib.hid (And.intro hzs (And.intro hPl hPg))
      have O7 := Lib.hid ho
      have W7 := Lib.hid hw
      have G7 := Lib.hid hg
      have B7 := Lib.hid (B6.out.tr b7)
      have Z67 : Hid (w.heap.size ≤ w6.heap.size ∧ w.heap.size ≤ w7.heap.size) := Lib.hid ⟨B6.out.size, B7.out.size⟩
      obtain ⟨m, hm⟩ : ∃ m, m = Ps.length + 1 := ⟨_, rfl⟩
      have HM : Hid (m = zs.length + 2 ∧ m = Ps.length + 1 ∧ m ≤ 22) := Lib.hid ⟨by rw [hm, hPl], hm, by
        rw [hm, hPl, hzs, List.length_zip]
        have := sizeM_le 20 p q
        have := HPQ.out.2.2.1
        omega⟩
      rw [← hm] at O7 W7 G7 ⊢
      clear hzs hPl hPg ho hw hg b7 hm
      go_wp2_with fail
      refine (reverse_own w7 w6.heap.size m (.slice a9 m c9) (Ps ++ [gt]) O7.out (by simp; have := HM.out.2.1; omega) (by have := HM.out.1; omega) (by have := HM.out.2.2; omega)).mono ?_
      rintro e w8 ⟨rfl, g8, r8⟩
      have W8 := Lib.hid (W7.out.kept g8 (fun k hk => hk))
      have G8 := Lib.hid (G7.out.kept g8 (fun k hk => hk))
      have R8 := Lib.hid r8
      have B8 : Hid (Below w.heap.size w w8) := Lib.hid (B7.out.grown g8 Z67.out.2 (fun j hj => Nat.le_trans Z67.out.1 (O7.out.lt j hj).1))
      clear g8 r8 W7 G7 O7
      go_wp2_with fail
      refine (tree_own w8 _ l (HI.out.fresh B8.out) HX.out.2.1 q x zs (dirsM 20 p q)).mono ?_
      rintro e w9 ⟨o0, rfl, ow, b9⟩
      have W9 := Lib.hid (W8.out.fresh b9)
      have G9 := Lib.hid (G8.out.fresh b9)
      have R9 := Lib.hid (R8.out.fresh b9)
      have B9 := Lib.hid (B8.out.tr b9)
      have OW := Lib.hid ow
      obtain ⟨F9, hF9⟩ : ∃ F, F = OKb w7 (.slice a9 m c9) := ⟨_, rfl⟩
      rw [← hF9] at W9 G9
      have HNE : Hid (¬ (q = l.length ∧ l.getD p [] = x) ∧ topB q (wh x zs zs.length) = rootB l) := Lib.hid ⟨(fun h => hqM (h.1.trans HX.out.2.2.2.1.symm)), by
        rw [← way_root HPQ.out.1 HPQ.out.2.1 HPQ.out.2.2.1 ZS.out.1, ← HX.out.2.2.2.2.1]
        exact HPQ.out.2.2.2⟩
      obtain ⟨ad9, c9', he9⟩ := R9.out.isSome (by have := HM.out.1; omega)
      simp only [Value.slice.injEq, true_and] at he9
      obtain ⟨rfl, rfl⟩ := he9
      have m1 : (1 : Int) ≤ (m : Int) := by have := HM.out.1; omega
      have m22 : (m : Int) ≤ 22 := by have := HM.out.2.2; omega
      clear W8 G8 R8 B8 ow b9 hF9
      go_wp2
      go_loopw [10, 44] (fun v10 v44 wr => ∃ (i o : Nat), i ≤ zs.length + 1 ∧ v44 = .int .i64 (i : Int) ∧ v10 = .pointer (some ⟨o, 0, none⟩) ∧ OwnAt wr l q x zs (dirsM 20 p q) i o ∧ Below w9.heap.size w9 wr)
        (fun _ v _ => m - (RowKit.intOf v).toNat)
      case atStart => exact ⟨0, o0, Nat.zero_le _, rfl, rfl, OW.out, Below.refl _ _⟩
      case round =>
        obtain ⟨i, o, hil, rfl, rfl, how, hb⟩ := hrel
        obtain ⟨gx, hX, X, kX, hO, O, kO, hgx, nX, nO, hsh, hle, hgo⟩ := level (W9.out.fresh hb) ZS.out.2.2 (G9.out.fresh hb) ZS.out.1 rfl HPQ.out.1 HPQ.out.2.1 HPQ.out.2.2.1 HNE.out.2 HX.out.2.1 HNE.out.1 HI.out.1 HX.out.1 hil how
        obtain ⟨hXl, hXF, vX, uX, cX, rX, dX, _, _⟩ := nX
        obtain ⟨hOl, _, vO, uO, cO, rO, dO, _, _⟩ := nO
        have im : (i : Int) < (m : Int) := by have := HM.out.1; omega
        have hup := (R9.out.fresh hb).ptr (i := i) (g := gx) (by
          rw [List.getElem?_reverse (by simp; have := HM.out; omega), ← hgx]
          congr 1
          simp
          have := HM.out
          omega)
        have bd := hb.drew
        have SH := Lib.hid (And.intro hsh (And.intro hgo (And.intro hgx hil)))
        have HB9 := Lib.hid hb
        have LE := Lib.hid hle
        have OWi := Lib.hid how
        have XL := Lib.hid (And.intro hXl hOl)
        have DD := Lib.hid (And.intro dX dO)
        have hS : Hid (CB wr.drew 166 gx (bvs hX ++ [vX, uX]) ∧ CB wr.drew 166 o (bvs hO ++ [vO, uO]) ∧ Rd wr.drew 1 vX X.length (bvs X) ∧ Rd wr.drew 1 vO O.length (bvs O)) := Lib.hid ⟨cX.fresh ((Below.refl _ wr).drew), cO.fresh ((Below.refl _ wr).drew), rX.fresh ((Below.refl _ wr).drew), rO.fresh ((Below.refl _ wr).drew)⟩
        have HN := Lib.hid (And.intro cX cO)
        clear hsh hle hgo hgx hb how hXl hOl dX dO cX cO rX rO hXF bd
        go_wp2_with fail
        refine pl_start 11 rfl (fun w' => CB w' 166 gx (bvs hX ++ [vX, uX]) ∧ CB w' 166 o (bvs hO ++ [vO, uO]) ∧ Rd w' 1 vX X.length (bvs X) ∧ Rd w' 1 vO O.length (bvs O)) (by kernel_rfl) ?_
        refine pl_take (i := 0) 49 rfl rfl rfl (by kernel_rfl) (by kernel_rfl) (by kernel_rfl) (by simp [Act.put]) hS.out ?_
        apply Exists.intro
        refine And.intro (fun w' hS' => ?_) ?_
        · go_wp2
          exact ⟨trivial, rfl⟩
        refine pl_take (i := 1) 50 rfl rfl rfl (by kernel_rfl) (by kernel_rfl) (by kernel_rfl) (by simp [Act.put]) hS.out ?_
        apply Exists.intro
        refine And.intro (fun w' hS' => ?_) ?_
        · go_wp2
          exact ⟨trivial, rfl⟩
        refine pl_take (i := 2) 51 rfl rfl rfl (by kernel_rfl) (by kernel_rfl) (by kernel_rfl) (by simp [Act.put]) hS.out ?_
        apply Exists.intro
        refine And.intro (fun w' hS' => ?_) ?_
        · go_wp2
          exact ⟨trivial, rfl⟩
        refine pl_take (i := 3) 52 rfl rfl rfl (by kernel_rfl) (by kernel_rfl) (by kernel_rfl) (by simp [Act.put]) hS.out ?_
        apply Exists.intro
        refine And.intro (fun w' hS' => ?_) ?_
        · have hc := hS'.1.cell 32 _ (node32 XL.out.1).1
          clear hS'
          go_wp2
          exact ⟨trivial, rfl⟩
        refine pl_take (i := 4) 53 rfl rfl rfl (by kernel_rfl) (by kernel_rfl) (by kernel_rfl) (by simp [Act.put]) hS.out ?_
        apply Exists.intro
        refine And.intro (fun w' hS' => ?_) ?_
        · have hv := hS'.2.2.1.conv (P := Try.prog) 42 9 5 Try.underlying42 Try.underlying5 Try.underlying9
          clear hS'
          go_wp2
          exact ⟨trivial, rfl⟩
        refine pl_take (i := 5) 54 rfl rfl rfl (by kernel_rfl) (by kernel_rfl) (by kernel_rfl) (by simp [Act.put]) hS.out ?_
        apply Exists.intro
        refine And.intro (fun w' hS' => ?_) ?_
        · go_wp2
          exact ⟨trivial, rfl⟩
        refine pl_take (i := 6) 55 rfl rfl rfl (by kernel_rfl) (by kernel_rfl) (by kernel_rfl) (by simp [Act.put]) hS.out ?_
        apply Exists.intro
        refine And.intro (fun w' hS' => ?_) ?_
        · go_wp2
          exact ⟨trivial, rfl⟩
        refine pl_take (i := 7) 56 rfl rfl rfl (by kernel_rfl) (by kernel_rfl) (by kernel_rfl) (by simp [Act.put]) hS.out ?_
        apply Exists.intro
        refine And.intro (fun w' hS' => ?_) ?_
        · go_wp2
          exact ⟨trivial, rfl⟩
        refine pl_take (i := 8) 57 rfl rfl rfl (by kernel_rfl) (by kernel_rfl) (by kernel_rfl) (by simp [Act.put]) hS.out ?_
        apply Exists.intro
        refine And.intro (fun w' hS' => ?_) ?_
        · have hc := hS'.2.1.cell 32 _ (node32 XL.out.2).1
          clear hS'
          go_wp2
          exact ⟨trivial, rfl⟩
        refine pl_take (i := 9) 58 rfl rfl rfl (by kernel_rfl) (by kernel_rfl) (by kernel_rfl) (by simp [Act.put]) hS.out ?_
        apply Exists.intro
        refine And.intro (fun w' hS' => ?_) ?_
        · have hv := hS'.2.2.2.conv (P := Try.prog) 42 9 5 Try.underlying42 Try.underlying5 Try.underlying9
          clear hS'
          go_wp2
          exact ⟨trivial, rfl⟩
        refine pl_take (i := 10) 59 rfl rfl rfl (by kernel_rfl) (by kernel_rfl) (by kernel_rfl) (by simp [Act.put]) hS.out ?_
        apply Exists.intro
        refine And.intro (fun w' hS' => ?_) ?_
        · refine wpList_bin rfl .neq 9 9 (.tmp 53) (.tmp 58) rfl (.bool (X != O)) (str_guard _ _ _ _ _ _) (str_neq w' X O) ?_
          clear hS'
          go_wp2
          exact ⟨trivial, rfl⟩
        by_cases hXO : X = O
        · have hq : (X != O) = false := by rw [hXO]; simp
          rw [hq]
          subst hXO
          clear hq
          refine pl_done (by kernel_rfl) ?_
          obtain ⟨hiz, hk2, idx, pp, o', hidx, hup2, hkx, hpast, hko, how2⟩ := SH.out.2.1 rfl
          obtain ⟨gX, hgX, cKX⟩ : ∃ gX, uX = .slice (some ⟨gX, 0, none⟩) kX.length kX.length ∧ CB wr 163 gX (kX.map fun k => .pointer (some ⟨k, 0, none⟩)) := by
            rcases DD.out.1 with ⟨h1, _⟩ | h1
            · rw [h1] at hkx; cases hkx
            · exact h1
          obtain ⟨gO, hgO, cKO⟩ : ∃ gO, uO = .slice (some ⟨gO, 0, none⟩) kO.length kO.length ∧ CB wr 163 gO (kO.map fun k => .pointer (some ⟨k, 0, none⟩)) := by
            rcases DD.out.2 with ⟨h1, _⟩ | h1
            · rw [h1] at hko; cases hko
            · exact h1
          obtain ⟨lX, hlX⟩ : ∃ n, n = kX.length := ⟨_, rfl⟩
          obtain ⟨lO, hlO⟩ : ∃ n, n = kO.length := ⟨_, rfl⟩
          rw [← hlX] at hgX
          rw [← hlO] at hgO
          subst hgX
          subst hgO
          have hidO : idx < lO := by rw [hlO]; exact (List.getElem?_eq_some_iff.1 hko).1
          have hidX : idx < lX := by rw [hlX]; exact (List.getElem?_eq_some_iff.1 hkx).1
          have e1 : ((i : Int) + 1 == (m : Int)) = false := by rw [beq_eq_false_iff_ne]; have := HM.out.1; omega
          have e2 : ((lO : Int) == 0) = false := by rw [beq_eq_false_iff_ne]; omega
          have im1 : (i : Int) + 1 < (m : Int) := by have := HM.out.1; omega
          have c33 := hS.out.2.1.cell 33 _ (node32 XL.out.2).2
          have OX := Lib.hid (And.intro hk2 (And.intro hkx (And.intro hpast (And.intro hko (And.intro how2 (And.intro hlX hlO))))))
          have KK := Lib.hid (And.intro cKX cKO)
          have UP2 := Lib.hid hup2
          have IZ := Lib.hid (And.intro hiz hidx)
          clear hiz hk2 hidx hup2 hkx hpast hko how2 cKX cKO hlX hlO
          go_wp2_with fail
          have hPP : Hid (∃ cg tg, wr.heap[pp]? = some (.cells cg tg (0, 0))) := Lib.hid (by
            have h1 := UP2.out
            rw [List.getElem?_append_left (by have := ZS.out.2.1; omega)] at h1
            obtain ⟨kk, h2, _⟩ := (W9.out.fresh HB9.out).2 _ _ h1
            obtain ⟨_, _, vb, vk, h3, _⟩ := h2
            exact ⟨_, _, h3⟩)
          have hup3 : Hid (wr.cell? (ad9.add (i + 1)) = some (.pointer (some ⟨pp, 0, none⟩))) := Lib.hid ((R9.out.fresh HB9.out).ptr (i := i + 1) (g := pp) (by
            rw [List.getElem?_reverse (by simp; have := HM.out; have := IZ.out.1; omega), ← UP2.out]
            congr 1
            simp
            have := HM.out
            omega))
          have hko3 : Hid (wr.cell? ⟨gO, idx, none⟩ = some (.pointer (some ⟨o', 0, none⟩))) := Lib.hid (KK.out.2.cell idx _ (by rw [List.getElem?_map, OX.out.2.2.2.1]; rfl))
          have hRX : Hid (Rd wr 1 (.slice (some ⟨gX, 0, none⟩) lX lX) lX (pvs kX)) := Lib.hid ⟨by simp [OX.out.2.2.2.2.2.1], .inr ⟨_, _, rfl, Nat.le_refl _, by have := OX.out.1; have := OX.out.2.2.2.2.2.1; unfold maxLen; omega, fun j u hj => by
            rw [add_at, Nat.zero_add]
            exact KK.out.1.cell j u hj⟩⟩
          have bb2 : Below wr.heap.size wr wr.drew.drew := ((Below.refl _ wr).drew).drew
          have hS2 : Hid (CB wr.drew.drew 166 gx (bvs hX ++ [vX, .slice (some ⟨gX, 0, none⟩) lX lX]) ∧ CB wr.drew.drew 166 o (bvs hO ++ [vO, .slice (some ⟨gO, 0, none⟩) lO lO]) ∧ wr.drew.drew.cell? (ad9.add (i + 1)) = some (.pointer (some ⟨pp, 0, none⟩)) ∧ wr.drew.drew.cell? ((⟨gO, 0, none⟩ : Addr).add idx) = some (.pointer (some ⟨o', 0, none⟩))) := Lib.hid ⟨HN.out.1.fresh bb2, HN.out.2.fresh bb2, hup3.out, by rw [add_at, Nat.zero_add]; exact hko3.out⟩
          have BF := Lib.hid HB9.out.drew.drew
          clear bb2 c33
          refine pl_start 17 rfl (fun w' => CB w' 166 gx (bvs hX ++ [vX, .slice (some ⟨gX, 0, none⟩) lX lX]) ∧ CB w' 166 o (bvs hO ++ [vO, .slice (some ⟨gO, 0, none⟩) lO lO]) ∧ w'.cell? (ad9.add (i + 1)) = some (.pointer (some ⟨pp, 0, none⟩)) ∧ w'.cell? ((⟨gO, 0, none⟩ : Addr).add idx) = some (.pointer (some ⟨o', 0, none⟩))) (by kernel_rfl) ?_
          refine pl_take (i := 0) 81 rfl rfl rfl (by kernel_rfl) (by kernel_rfl) (by kernel_rfl) (by simp [Act.put]) hS2.out ?_
          apply Exists.intro
          refine And.intro (fun w' hS' => ?_) ?_
          · go_wp2
            exact ⟨trivial, rfl⟩
          refine pl_take (i := 1) 82 rfl rfl rfl (by kernel_rfl) (by kernel_rfl) (by kernel_rfl) (by simp [Act.put]) hS2.out ?_
          apply Exists.intro
          refine And.intro (fun w' hS' => ?_) ?_
          · go_wp2
            exact ⟨trivial, rfl⟩
          refine pl_take (i := 2) 83 rfl rfl rfl (by kernel_rfl) (by kernel_rfl) (by kernel_rfl) (by simp [Act.put]) hS2.out ?_
          apply Exists.intro
          refine And.intro (fun w' hS' => ?_) ?_
          · go_wp2
            exact ⟨trivial, rfl⟩
          refine pl_take (i := 3) 84 rfl rfl rfl (by kernel_rfl) (by kernel_rfl) (by kernel_rfl) (by simp [Act.put]) hS2.out ?_
          apply Exists.intro
          refine And.intro (fun w' hS' => ?_) ?_
          · have hc := hS'.2.1.cell 33 _ (node32 XL.out.2).2
            clear hS'
            go_wp2
            exact ⟨trivial, rfl⟩
          refine pl_take (i := 4) 85 rfl rfl rfl (by kernel_rfl) (by kernel_rfl) (by kernel_rfl) (by simp [Act.put]) hS2.out ?_
          apply Exists.intro
          refine And.intro (fun w' hS' => ?_) ?_
          · go_wp2
            exact ⟨trivial, rfl⟩
          refine pl_take (i := 5) 86 rfl rfl rfl (by kernel_rfl) (by kernel_rfl) (by kernel_rfl) (by simp [Act.put]) hS2.out ?_
          apply Exists.intro
          refine And.intro (fun w' hS' => ?_) ?_
          · go_wp2
            exact ⟨trivial, rfl⟩
          refine pl_take (i := 6) 87 rfl rfl rfl (by kernel_rfl) (by kernel_rfl) (by kernel_rfl) (by simp [Act.put]) hS2.out ?_
          apply Exists.intro
          refine And.intro (fun w' hS' => ?_) ?_
          · go_wp2
            exact ⟨trivial, rfl⟩
          refine pl_take (i := 7) 88 rfl rfl rfl (by kernel_rfl) (by kernel_rfl) (by kernel_rfl) (by simp [Act.put]) hS2.out ?_
          apply Exists.intro
          refine And.intro (fun w' hS' => ?_) ?_
          · have hc := hS'.1.cell 33 _ (node32 XL.out.1).2
            clear hS'
            go_wp2
            exact ⟨trivial, rfl⟩
          refine pl_take (i := 8) 89 rfl rfl rfl (by kernel_rfl) (by kernel_rfl) (by kernel_rfl) (by simp [Act.put]) hS2.out ?_
          apply Exists.intro
          refine And.intro (fun w' hS' => ?_) ?_
          · go_wp2
            exact ⟨trivial, rfl⟩
          refine pl_take (i := 9) 90 rfl rfl rfl (by kernel_rfl) (by kernel_rfl) (by kernel_rfl) (by simp [Act.put]) hS2.out ?_
          apply Exists.intro
          refine And.intro (fun w' hS' => ?_) ?_
          · go_wp2
            exact ⟨trivial, rfl⟩
          refine pl_take (i := 10) 91 rfl rfl rfl (by kernel_rfl) (by kernel_rfl) (by kernel_rfl) (by simp [Act.put]) hS2.out ?_
          apply Exists.intro
          refine And.intro (fun w' hS' => ?_) ?_
          · go_wp2
            exact ⟨trivial, rfl⟩
          refine pl_take (i := 11) 92 rfl rfl rfl (by kernel_rfl) (by kernel_rfl) (by kernel_rfl) (by simp [Act.put]) hS2.out ?_
          apply Exists.intro
          refine And.intro (fun w' hS' => ?_) ?_
          · go_wp2
            exact ⟨trivial, rfl⟩
          refine pl_take (i := 12) 93 rfl rfl rfl (by kernel_rfl) (by kernel_rfl) (by kernel_rfl) (by simp [Act.put]) hS2.out ?_
          apply Exists.intro
          refine And.intro (fun w' hS' => ?_) ?_
          · have hc := hS'.2.2.1
            rw [Addr.add_succ'] at hc
            clear hS'
            go_wp2
            exact ⟨trivial, rfl⟩
          refine pl_heavy (i := 13) rfl (by kernel_rfl) ?_
          go_wp2_with fail
          refine (index_any wr.drew.drew ⟨gX, 0, none⟩ lX lX kX pp idx (hRX.out.fresh (show Below wr.heap.size wr wr.drew.drew from ((Below.refl _ wr).drew).drew)) OX.out.2.2.2.2.2.1.symm (by have := OX.out.1; have := OX.out.2.2.2.2.2.1; omega) OX.out.2.1 OX.out.2.2.1 hPP.out).mono ?_
          rintro e wx ⟨rfl, rfl⟩
          go_wp2
          refine And.intro hS2.out ?_
          refine pl_take (i := 14) 95 rfl rfl rfl (by kernel_rfl) (by kernel_rfl) (by kernel_rfl) (by simp [Act.put]) hS2.out ?_
          apply Exists.intro
          refine And.intro (fun w' hS' => ?_) ?_
          · go_wp2
            exact ⟨trivial, rfl⟩
          refine pl_take (i := 15) 96 rfl rfl rfl (by kernel_rfl) (by kernel_rfl) (by kernel_rfl) (by simp [Act.put]) hS2.out ?_
          apply Exists.intro
          refine And.intro (fun w' hS' => ?_) ?_
          · have hc := hS'.2.2.2
            rw [add_at, Nat.zero_add] at hc
            clear hS'
            go_wp2
            exact ⟨trivial, rfl⟩
          refine pl_take (i := 16) 10 rfl rfl rfl (by kernel_rfl) (by kernel_rfl) (by kernel_rfl) (by simp [Act.put]) hS2.out ?_
          apply Exists.intro
          refine And.intro (fun w' hS' => ?_) ?_
          · go_wp2
            exact ⟨trivial, rfl⟩
          refine pl_done (by kernel_rfl) ?_
          go_wp2
          go_roundw
          case rel => exact ⟨i + 1, o', by have := IZ.out.1; omega, by go_num, rfl, OX.out.2.2.2.2.1.fresh (show Below wr.heap.size wr wr.drew.drew from ((Below.refl _ wr).drew).drew), BF.out⟩
          case measure => simp only [RowKit.intOf]; omega
        · have hq : (X != O) = true := by simpa using hXO
          rw [hq]
          clear hq
          have HXO := Lib.hid hXO
          clear hXO
          refine pl_done (by kernel_rfl) ?_
          go_wp2_with fail
          have hS2 : Hid (CB wr.drew.drew 166 gx (bvs hX ++ [vX, uX]) ∧ CB wr.drew.drew 166 o (bvs hO ++ [vO, uO]) ∧ Rd wr.drew.drew 1 vX X.length (bvs X) ∧ Rd wr.drew.drew 1 vO O.length (bvs O)) := Lib.hid ⟨hS.out.1.fresh ((Below.refl _ wr.drew).drew), hS.out.2.1.fresh ((Below.refl _ wr.drew).drew), hS.out.2.2.1.fresh ((Below.refl _ wr.drew).drew), hS.out.2.2.2.fresh ((Below.refl _ wr.drew).drew)⟩
          have BF : Hid (Below w.heap.size w wr.drew.drew) := Lib.hid (B9.out.tr HB9.out).drew.drew
          refine pl_start 11 rfl (fun w' => CB w' 166 gx (bvs hX ++ [vX, uX]) ∧ CB w' 166 o (bvs hO ++ [vO, uO]) ∧ Rd w' 1 vX X.length (bvs X) ∧ Rd w' 1 vO O.length (bvs O)) (by kernel_rfl) ?_
          refine pl_take (i := 0) 60 rfl rfl rfl (by kernel_rfl) (by kernel_rfl) (by kernel_rfl) (by simp [Act.put]) hS2.out ?_
          apply Exists.intro
          refine And.intro (fun w' hS' => ?_) ?_
          · go_wp2
            exact ⟨trivial, rfl⟩
          refine pl_take (i := 1) 61 rfl rfl rfl (by kernel_rfl) (by kernel_rfl) (by kernel_rfl) (by simp [Act.put]) hS2.out ?_
          apply Exists.intro
          refine And.intro (fun w' hS' => ?_) ?_
          · go_wp2
            exact ⟨trivial, rfl⟩
          refine pl_take (i := 2) 62 rfl rfl rfl (by kernel_rfl) (by kernel_rfl) (by kernel_rfl) (by simp [Act.put]) hS2.out ?_
          apply Exists.intro
          refine And.intro (fun w' hS' => ?_) ?_
          · go_wp2
            exact ⟨trivial, rfl⟩
          refine pl_take (i := 3) 63 rfl rfl rfl (by kernel_rfl) (by kernel_rfl) (by kernel_rfl) (by simp [Act.put]) hS2.out ?_
          apply Exists.intro
          refine And.intro (fun w' hS' => ?_) ?_
          · have hc := hS'.1.cell 32 _ (node32 XL.out.1).1
            clear hS'
            go_wp2
            exact ⟨trivial, rfl⟩
          refine pl_take (i := 4) 64 rfl rfl rfl (by kernel_rfl) (by kernel_rfl) (by kernel_rfl) (by simp [Act.put]) hS2.out ?_
          apply Exists.intro
          refine And.intro (fun w' hS' => ?_) ?_
          · go_wp2
            exact ⟨trivial, rfl⟩
          refine pl_take (i := 5) 65 rfl rfl rfl (by kernel_rfl) (by kernel_rfl) (by kernel_rfl) (by simp [Act.put]) hS2.out ?_
          apply Exists.intro
          refine And.intro (fun w' hS' => ?_) ?_
          · go_wp2
            exact ⟨trivial, rfl⟩
          refine pl_take (i := 6) 66 rfl rfl rfl (by kernel_rfl) (by kernel_rfl) (by kernel_rfl) (by simp [Act.put]) hS2.out ?_
          apply Exists.intro
          refine And.intro (fun w' hS' => ?_) ?_
          · go_wp2
            exact ⟨trivial, rfl⟩
          refine pl_take (i := 7) 67 rfl rfl rfl (by kernel_rfl) (by kernel_rfl) (by kernel_rfl) (by simp [Act.put]) hS2.out ?_
          apply Exists.intro
          refine And.intro (fun w' hS' => ?_) ?_
          · have hc := hS'.2.1.cell 32 _ (node32 XL.out.2).1
            clear hS'
            go_wp2
            exact ⟨trivial, rfl⟩
          refine pl_take (i := 8) 6 rfl rfl rfl (by kernel_rfl) (by kernel_rfl) (by kernel_rfl) (by simp [Act.put]) hS2.out ?_
          apply Exists.intro
          refine And.intro (fun w' hS' => ?_) ?_
          · go_wp2
            exact ⟨trivial, rfl⟩
          refine pl_take (i := 9) 7 rfl rfl rfl (by kernel_rfl) (by kernel_rfl) (by kernel_rfl) (by simp [Act.put]) hS2.out ?_
          apply Exists.intro
          refine And.intro (fun w' hS' => ?_) ?_
          · go_wp2
            exact ⟨trivial, rfl⟩
          refine pl_take (i := 10) 8 rfl rfl rfl (by kernel_rfl) (by kernel_rfl) (by kernel_rfl) (by simp [Act.put]) hS2.out ?_
          apply Exists.intro
          refine And.intro (fun w' hS' => ?_) ?_
          · go_wp2
            exact ⟨trivial, rfl⟩
          refine pl_done (by kernel_rfl) ?_
          go_wp2
          go_ret3
          exact ⟨_, _, rfl, .inr ⟨rfl, X, O, LE.out, hS2.out.2.2.1, hS2.out.2.2.2, HXO.out, SH.out.1⟩, BF.out⟩
  · have hT0 : T = false := by
      rw [HX.out.2.2.2.2.2.2.1, collB, ← HX.out.2.2.2.2.1, ← HX.out.2.2.2.2.2.1]
      rw [h0]
      rfl
    subst h0
    subst hT0
    refine pl_take (i := 5) 18 rfl rfl rfl (by kernel_rfl) (by kernel_rfl) (by kernel_rfl) (by simp [Act.put]) S6.out ?_
    apply Exists.intro
    refine And.intro (fun w' hS' => ?_) ?_
    · go_wp2
      exact ⟨trivial, rfl⟩
    refine pl_take (i := 6) 19 rfl rfl rfl (by kernel_rfl) (by kernel_rfl) (by kernel_rfl) (by simp [Act.put]) S6.out ?_
    apply Exists.intro
    refine And.intro (fun w' hS' => ?_) ?_
    · go_wp2
      exact ⟨trivial, rfl⟩
    refine pl_skip (i := 7) rfl (by kernel_rfl) (by kernel_rfl) (by kernel_rfl) (by kernel_rfl) S6.out ?_
    apply Exists.intro
    refine And.intro (by simp [Act.put, go_sem]; rfl) ?_
    refine pl_skip (i := 8) rfl (by kernel_rfl) (by kernel_rfl) (by kernel_rfl) (by kernel_rfl) S6.out ?_
    apply Exists.intro
    refine And.intro (by simp [Act.put, go_sem]; rfl) ?_
    refine pl_skip (i := 9) rfl (by kernel_rfl) (by kernel_rfl) (by kernel_rfl) (by kernel_rfl) S6.out ?_
    apply Exists.intro
    refine And.intro (by simp [Act.put, go_sem]; rfl) ?_
    refine pl_skip (i := 10) rfl (by kernel_rfl) (by kernel_rfl) (by kernel_rfl) (by kernel_rfl) S6.out ?_
    apply Exists.intro
    refine And.intro (by simp [Act.put, go_sem]; rfl) ?_
    refine pl_skip (i := 11) rfl (by kernel_rfl) (by kernel_rfl) (by kernel_rfl) (by kernel_rfl) S6.out ?_
    apply Exists.intro
    refine And.intro (by simp [Act.put, go_sem]; rfl) ?_
    refine pl_skip (i := 12) rfl (by kernel_rfl) (by kernel_rfl) (by kernel_rfl) (by kernel_rfl) S6.out ?_
    apply Exists.intro
    refine And.intro (by simp [Act.put, go_sem]; rfl) ?_
    refine pl_skip (i := 13) rfl (by kernel_rfl) (by kernel_rfl) (by kernel_rfl) (by kernel_rfl) S6.out ?_
    apply Exists.intro
    refine And.intro (by simp [Act.put, go_sem]; rfl) ?_
    refine pl_skip (i := 14) rfl (by kernel_rfl) (by kernel_rfl) (by kernel_rfl) (by kernel_rfl) S6.out ?_
    apply Exists.intro
    refine And.intro (by simp [Act.put, go_sem]; rfl) ?_
    refine pl_skip (i := 15) rfl (by kernel_rfl) (by kernel_rfl) (by kernel_rfl) (by kernel_rfl) S6.out ?_
    apply Exists.intro
    refine And.intro (by simp [Act.put, go_sem]; rfl) ?_
    refine pl_skip (i := 16) rfl (by kernel_rfl) (by kernel_rfl) (by kernel_rfl) (by kernel_rfl) S6.out ?_
    apply Exists.intro
    refine And.intro (by simp [Act.put, go_sem]; rfl) ?_
    refine pl_skip (i := 17) rfl (by kernel_rfl) (by kernel_rfl) (by kernel_rfl) (by kernel_rfl) S6.out ?_
    apply Exists.intro
    refine And.intro (by simp [Act.put, go_sem]; rfl) ?_
    refine pl_skip (i := 18) rfl (by kernel_rfl) (by kernel_rfl) (by kernel_rfl) (by kernel_rfl) S6.out ?_
    apply Exists.intro
    refine And.intro (by simp [Act.put, go_sem]; rfl) ?_
    refine pl_skip (i := 19) rfl (by kernel_rfl) (by kernel_rfl) (by kernel_rfl) (by kernel_rfl) S6.out ?_
    apply Exists.intro
    refine And.intro (by simp [Act.put, go_sem]; rfl) ?_
    refine pl_skip (i := 20) rfl (by kernel_rfl) (by kernel_rfl) (by kernel_rfl) (by kernel_rfl) S6.out ?_
    apply Exists.intro
    refine And.intro (by simp [Act.put, go_sem]; rfl) ?_
    refine pl_take (i := 21) 34 rfl rfl rfl (by kernel_rfl) (by kernel_rfl) (by kernel_rfl) (by simp [Act.put]) S6.out ?_
    apply Exists.intro
    refine And.intro (fun w' hS' => ?_) ?_
    · go_wp2
      exact ⟨trivial, rfl⟩
    refine pl_done (by kernel_rfl) ?_
    go_wp2
    go_ret3
    exact ⟨_, _, rfl, .inl ⟨rfl, rfl, rfl⟩, B6.out⟩

end Go.Proofs.Ytbabjepblakboaa
