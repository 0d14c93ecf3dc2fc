/- Disks: a step of the law done; how many steps are gone through: the walks. -/
import Derived.Test.YtbbbgpdhdlknjaaDs
namespace Go.Proofs.Ytbbbgpdhdlknjaa
set_option linter.unusedVariables false
set_option linter.unusedSimpArgs false
open Go.RowKit Go.Lib

/-- A step of the law. -/
structure Sp where
  kind : Int
  log : Int
  n : Int
  m : Int
  x : UInt8
  b : Bs

def spC (s : Sp × Value) : List Value := [.int .i64 s.1.kind, .int .i64 s.1.log, .int .i64 s.1.n, .int .i64 s.1.m, .int .u8 (s.1.x.toNat : Int), s.2]

/-- What an operation answers, and the disk behind it. -/
def Post [Inhabited (Option Nat)] (D S : Nat) (wv : Value) (w : World) (r : Int × Dk) (e : Ending) (w' : World) : Prop :=
  e = .returned (.int .i64 r.1) ∧ ∃ wv', DkAt w' D S wv' r.2 ∧ Mv D S wv w w' ∧ Grew w wv wv'

def doK (k : Dk) (s : Sp) : Int × Dk :=
  if s.kind = 1 then (if hasB s.log = true then appK k s.log.toNat s.b else (2, k))
  else if s.kind = 2 then (if hasB s.log = true ∧ 0 ≤ s.n ∧ s.n ≤ ((k.now.getD s.log.toNat []).length : Int) then ((burnK k).1, putK k (.cut s.log.toNat s.n.toNat)) else (2, k))
  else if s.kind = 3 then syncK k
  else if s.kind = 4 then (if s.n < 0 then (2, k) else (0, { k with fuse := s.n, armed := true }))
  else if s.kind = 5 then (0, crashK k s.n s.m)
  else if s.kind = 6 then (if hasB s.log = true ∧ 0 ≤ s.n ∧ s.n < ((k.now.getD s.log.toNat []).length : Int) then (0, editK k s.log.toNat s.n.toNat s.x) else (2, k))
  else (0, k)

theorem hasB_nat {i : Int} (h : hasB i = true) : ∃ n : Nat, i = (n : Int) ∧ n < 16 := by
  simp only [hasB, Bool.and_eq_true, decide_eq_true_eq] at h
  exact ⟨i.toNat, by omega, by omega⟩

theorem append_do [Inhabited (Option Nat)] (w : World) (D S : Nat) (wv : Value) (k : Dk) (i : Int) (u : Value) (b : Bs) (h : DkAt w D S wv k) (hok : Ok k) (hw : k.wait.length ≤ 999999) (hu : Rd w 1 u b.length (bvs b)) (hbl : b.length ≤ 100000000) (hav : Av w.heap.size) :
    Calls Try.prog 27 #[.pointer (some ⟨D, 0, none⟩), .int .i64 i, u] w (Post D S wv w (if hasB i = true then appK k i.toNat b else (2, k))) := by
  cases hi : hasB i with
  | false =>
    refine (append_no w D S wv k i u h hi).mono ?_
    rintro e w' ⟨rfl, rfl⟩
    exact ⟨rfl, wv, h, Mv.refl _ _ _ _, fun j hj => .inl hj⟩
  | true =>
    obtain ⟨n, rfl, hn⟩ := hasB_nat hi
    rw [if_pos rfl, Int.toNat_natCast]
    exact append_any w D S wv k n u b h hn hu hbl hok.f0 hok.f1 hok.nl (by omega) hav

theorem cut_do [Inhabited (Option Nat)] (w : World) (D S : Nat) (wv : Value) (k : Dk) (i n : Int) (h : DkAt w D S wv k) (hok : Ok k) (hw : k.wait.length ≤ 999999) (hav : Av w.heap.size) :
    Calls Try.prog 28 #[.pointer (some ⟨D, 0, none⟩), .int .i64 i, .int .i64 n] w (Post D S wv w (if hasB i = true ∧ 0 ≤ n ∧ n ≤ ((k.now.getD i.toNat []).length : Int) then ((burnK k).1, putK k (.cut i.toNat n.toNat)) else (2, k))) := by
  have bad : ∀ e w', e = Ending.returned (.int .i64 2) ∧ Below w.heap.size w w' → Post D S wv w (2, k) e w' := by
    rintro e w' ⟨rfl, b⟩
    exact ⟨rfl, wv, h.fresh b, Mv.fresh b, fun j hj => .inl hj⟩
  cases hi : hasB i with
  | false =>
    rw [if_neg (by simp)]
    exact (cut_no1 w D S wv k h i n hi).mono bad
  | true =>
    obtain ⟨q, rfl, hq⟩ := hasB_nat hi
    rw [Int.toNat_natCast]
    by_cases h0 : 0 ≤ n
    · by_cases h1 : n ≤ ((k.now.getD q []).length : Int)
      · obtain ⟨p, rfl⟩ : ∃ p : Nat, n = (p : Int) := ⟨n.toNat, by omega⟩
        rw [if_pos ⟨rfl, h0, h1⟩, Int.toNat_natCast]
        exact cut_any w D S wv k h q p hq (by omega) hok.f0 hok.f1 hok.nl (by omega) hav
      · rw [if_neg (fun hc => h1 hc.2.2)]
        exact (cut_no3 w D S wv k h q n hq (by omega)).mono bad
    · rw [if_neg (fun hc => h0 hc.2.1)]
      exact (cut_no2 w D S wv k h q n hq (by omega)).mono bad

theorem edit_do [Inhabited (Option Nat)] (w : World) (D S : Nat) (wv : Value) (k : Dk) (i n : Int) (x : UInt8) (h : DkAt w D S wv k) (hok : Ok k) (hw : k.wait.length ≤ 999999) (hav : Av w.heap.size) :
    Calls Try.prog 31 #[.pointer (some ⟨D, 0, none⟩), .int .i64 i, .int .i64 n, .int .u8 (x.toNat : Int)] w (Post D S wv w (if hasB i = true ∧ 0 ≤ n ∧ n < ((k.now.getD i.toNat []).length : Int) then (0, editK k i.toNat n.toNat x) else (2, k))) := by
  have bad : ∀ e w', e = Ending.returned (.int .i64 2) ∧ w = w' → Post D S wv w (2, k) e w' := by
    rintro e w' ⟨rfl, rfl⟩
    exact ⟨rfl, wv, h, Mv.refl _ _ _ _, fun j hj => .inl hj⟩
  cases hi : hasB i with
  | false =>
    rw [if_neg (by simp)]
    exact (edit_no1 w D S wv k i n _ h hi).mono bad
  | true =>
    obtain ⟨q, rfl, hq⟩ := hasB_nat hi
    rw [Int.toNat_natCast]
    by_cases h0 : 0 ≤ n
    · by_cases h1 : n < ((k.now.getD q []).length : Int)
      · obtain ⟨p, rfl⟩ : ∃ p : Nat, n = (p : Int) := ⟨n.toNat, by omega⟩
        rw [if_pos ⟨rfl, h0, h1⟩, Int.toNat_natCast]
        exact edit_any w D S wv k q p x h hok (by omega) hq (by omega) hav
      · rw [if_neg (fun hc => h1 hc.2.2)]
        exact (edit_no3 w D S wv k q n _ h hq h0 (by omega)).mono bad
    · rw [if_neg (fun hc => h0 hc.2.1)]
      exact (edit_no2 w D S wv k q n _ h hq (by omega)).mono bad

theorem fuse_do [Inhabited (Option Nat)] (w : World) (D S : Nat) (wv : Value) (k : Dk) (n : Int) (h : DkAt w D S wv k) :
    Calls Try.prog 30 #[.pointer (some ⟨D, 0, none⟩), .int .i64 n] w (Post D S wv w (if n < 0 then (2, k) else (0, { k with fuse := n, armed := true }))) := by
  by_cases hn : n < 0
  · rw [if_pos hn]
    refine (setfuse_no w D S wv k n h hn).mono ?_
    rintro e w' ⟨rfl, rfl⟩
    exact ⟨rfl, wv, h, Mv.refl _ _ _ _, fun j hj => .inl hj⟩
  · rw [if_neg hn]
    refine (setfuse_any w D S wv k n h (by omega)).mono ?_
    rintro e w' ⟨rfl, d, m⟩
    exact ⟨rfl, wv, d, m, fun j hj => .inl hj⟩

theorem crash_do [Inhabited (Option Nat)] (w : World) (D S : Nat) (wv : Value) (k : Dk) (n m : Int) (h : DkAt w D S wv k) (hok : Ok k) (hw : k.wait.length ≤ 999999) (h1 : -9223372036854775808 ≤ n) (h2 : n ≤ 9223372036854775807) (h3 : -9223372036854775808 ≤ m) (h4 : m ≤ 9223372036854775807) (hav : Av w.heap.size) :
    Calls Try.prog 14 #[.pointer (some ⟨D, 0, none⟩), .int .i64 n, .int .i64 m] w (Post D S wv w (0, crashK k n m)) :=
  crash_any w D S wv k h hok (by omega) n m h1 h2 h3 h4 hav

theorem sync_do [Inhabited (Option Nat)] (w : World) (D S : Nat) (wv : Value) (k : Dk) (h : DkAt w D S wv k) (hok : Ok k) (hw : k.wait.length ≤ 999999) (hav : Av w.heap.size) :
    Calls Try.prog 29 #[.pointer (some ⟨D, 0, none⟩)] w (Post D S wv w (syncK k)) :=
  sync_any w D S wv k h hok.f0 hok.f1 (by omega) hok.pre hav

/-- An operation behind a box made. -/
theorem Post.behind [Inhabited (Option Nat)] {D S : Nat} {wv : Value} {w w1 w' : World} {r : Int × Dk} {e : Ending} (hb : Below w.heap.size w w1) (h : Post D S wv w1 r e w') : Post D S wv w r e w' := by
  obtain ⟨he, wv', d, m, g⟩ := h
  exact ⟨he, wv', d, (Mv.fresh hb).tr' m, fun j hj => (g j hj).imp id (fun h => Nat.le_trans hb.size h)⟩

set_option maxRecDepth 100000 in
set_option maxHeartbeats 2000000 in
theorem do_any [Inhabited (Option Nat)] (w : World) (D S : Nat) (wv : Value) (k : Dk) (s : Sp) (u : Value) (h : DkAt w D S wv k) (hok : Ok k) (hw : k.wait.length ≤ 999999) (hu : Rd w 1 u s.b.length (bvs s.b)) (hbl : s.b.length ≤ 100000000)
    (h1 : -9223372036854775808 ≤ s.n) (h2 : s.n ≤ 9223372036854775807) (h3 : -9223372036854775808 ≤ s.m) (h4 : s.m ≤ 9223372036854775807) (hav : Av w.heap.size) :
    Calls Try.prog 11 #[.pointer (some ⟨D, 0, none⟩), .agg (spC (s, u)).toArray] w (Post D S wv w (doK k s)) := by
  obtain ⟨kind, log, n, m, x, b⟩ := s
  obtain ⟨a, c, rfl⟩ := hu.slice
  obtain ⟨w1, hw1, k1, b1, s1⟩ := alloc_cb w 31 (spC (⟨kind, log, n, m, x, b⟩, .slice a b.length c))
  have HB := Lib.hid b1
  have H1 := Lib.hid hw1
  have av1 := hav.mono b1.size
  have d1 := h.fresh b1
  have C1 := Lib.hid (append_do w1 D S wv k log (.slice a b.length c) b d1 hok hw (hu.fresh b1) hbl av1)
  have C2 := Lib.hid (cut_do w1 D S wv k log n d1 hok hw av1)
  have C3 := Lib.hid (sync_do w1 D S wv k d1 hok hw av1)
  have C4 := Lib.hid (fuse_do w1 D S wv k n d1)
  have C5 := Lib.hid (crash_do w1 D S wv k n m d1 hok hw h1 h2 h3 h4 av1)
  have C6 := Lib.hid (edit_do w1 D S wv k log n x d1 hok hw av1)
  have D1 := Lib.hid d1
  obtain ⟨R, hR⟩ : ∃ R, R = doK k ⟨kind, log, n, m, x, b⟩ := ⟨_, rfl⟩
  rw [← hR]
  simp only [doK] at hR
  have HR := Lib.hid hR
  change Calls _ _ #[_, .agg #[.int .i64 kind, .int .i64 log, .int .i64 n, .int .i64 m, .int .u8 (x.toNat : Int), .slice a b.length c]] _ _
  clear hw1 k1 b1 s1 av1 d1 h hok hw hu hbl h1 h2 h3 h4 hav hR
  by_cases e1 : kind = 1
  · subst e1
    have HR2 := HR.out
    simp only [Int.reduceEq, if_true, if_false] at HR2
    rw [← HR2] at C1
    have HRX := Lib.hid HR2
    clear HR2
    go_enter Try.func11, Try.ntmps11
    go_wp2_with fail
    change Calls _ _ _ (w.alloc (.cells (spC (⟨1, log, n, m, x, b⟩, .slice a b.length c)).toArray 31)) _
    rw [← H1.out]
    refine C1.out.mono ?_
    rintro e w2 ⟨rfl, q⟩
    have Q := Lib.hid q
    clear q
    go_wp2_with fail
    refine (num_any w2 R.1).mono ?_
    rintro e w2 ⟨rfl, rfl⟩
    go_wp2
    go_ret
    exact Post.behind HB.out ⟨rfl, Q.out⟩
  · by_cases e2 : kind = 2
    · subst e2
      have HR2 := HR.out
      simp only [Int.reduceEq, if_true, if_false] at HR2
      rw [← HR2] at C2
      have HRX := Lib.hid HR2
      clear HR2
      go_enter Try.func11, Try.ntmps11
      go_wp2_with fail
      change Calls _ _ _ (w.alloc (.cells (spC (⟨2, log, n, m, x, b⟩, .slice a b.length c)).toArray 31)) _
      rw [← H1.out]
      refine C2.out.mono ?_
      rintro e w2 ⟨rfl, q⟩
      have Q := Lib.hid q
      clear q
      go_wp2_with fail
      refine (num_any w2 R.1).mono ?_
      rintro e w2 ⟨rfl, rfl⟩
      go_wp2
      go_ret
      exact Post.behind HB.out ⟨rfl, Q.out⟩
    · by_cases e3 : kind = 3
      · subst e3
        have HR2 := HR.out
        simp only [Int.reduceEq, if_true, if_false] at HR2
        rw [← HR2] at C3
        have HRX := Lib.hid HR2
        clear HR2
        go_enter Try.func11, Try.ntmps11
        go_wp2_with fail
        change Calls _ _ _ (w.alloc (.cells (spC (⟨3, log, n, m, x, b⟩, .slice a b.length c)).toArray 31)) _
        rw [← H1.out]
        refine C3.out.mono ?_
        rintro e w2 ⟨rfl, q⟩
        have Q := Lib.hid q
        clear q
        go_wp2_with fail
        refine (num_any w2 R.1).mono ?_
        rintro e w2 ⟨rfl, rfl⟩
        go_wp2
        go_ret
        exact Post.behind HB.out ⟨rfl, Q.out⟩
      · by_cases e4 : kind = 4
        · subst e4
          have HR2 := HR.out
          simp only [Int.reduceEq, if_true, if_false] at HR2
          rw [← HR2] at C4
          have HRX := Lib.hid HR2
          clear HR2
          go_enter Try.func11, Try.ntmps11
          go_wp2_with fail
          change Calls _ _ _ (w.alloc (.cells (spC (⟨4, log, n, m, x, b⟩, .slice a b.length c)).toArray 31)) _
          rw [← H1.out]
          refine C4.out.mono ?_
          rintro e w2 ⟨rfl, q⟩
          have Q := Lib.hid q
          clear q
          go_wp2_with fail
          refine (num_any w2 R.1).mono ?_
          rintro e w2 ⟨rfl, rfl⟩
          go_wp2
          go_ret
          exact Post.behind HB.out ⟨rfl, Q.out⟩
        · by_cases e5 : kind = 5
          · subst e5
            have HR2 := HR.out
            simp only [Int.reduceEq, if_true, if_false] at HR2
            rw [← HR2] at C5
            have HRX := Lib.hid HR2
            clear HR2
            go_enter Try.func11, Try.ntmps11
            go_wp2_with fail
            change Calls _ _ _ (w.alloc (.cells (spC (⟨5, log, n, m, x, b⟩, .slice a b.length c)).toArray 31)) _
            rw [← H1.out]
            refine C5.out.mono ?_
            rintro e w2 ⟨rfl, q⟩
            have Q := Lib.hid q
            clear q
            go_wp2_with fail
            refine (num_any w2 R.1).mono ?_
            rintro e w2 ⟨rfl, rfl⟩
            go_wp2
            go_ret
            exact Post.behind HB.out ⟨rfl, Q.out⟩
          · by_cases e6 : kind = 6
            · subst e6
              have HR2 := HR.out
              simp only [Int.reduceEq, if_true, if_false] at HR2
              rw [← HR2] at C6
              have HRX := Lib.hid HR2
              clear HR2
              go_enter Try.func11, Try.ntmps11
              go_wp2_with fail
              change Calls _ _ _ (w.alloc (.cells (spC (⟨6, log, n, m, x, b⟩, .slice a b.length c)).toArray 31)) _
              rw [← H1.out]
              refine C6.out.mono ?_
              rintro e w2 ⟨rfl, q⟩
              have Q := Lib.hid q
              clear q
              go_wp2_with fail
              refine (num_any w2 R.1).mono ?_
              rintro e w2 ⟨rfl, rfl⟩
              go_wp2
              go_ret
              exact Post.behind HB.out ⟨rfl, Q.out⟩
            · have HR2 : Hid (R = (0, k)) := Lib.hid (by have := HR.out; rw [if_neg e1, if_neg e2, if_neg e3, if_neg e4, if_neg e5, if_neg e6] at this; exact this)
              go_enter Try.func11, Try.ntmps11
              go_wp2
              go_ret
              rw [HR2.out]
              have HF := H1.out
              change Post D S wv w (0, k) _ (w.alloc (.cells (spC (⟨kind, log, n, m, x, b⟩, .slice a b.length c)).toArray 31))
              rw [← HF]
              exact ⟨rfl, wv, D1.out, Mv.fresh HB.out, fun j hj => .inl hj⟩

end Go.Proofs.Ytbbbgpdhdlknjaa
