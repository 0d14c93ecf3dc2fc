/- Disks: a step of the document's disk: the walk. -/
import Derived.Test.YtbbbgpdhdlknjaaEe
namespace Go.Proofs.Ytbbbgpdhdlknjaa
set_option linter.unusedVariables false
set_option linter.unusedSimpArgs false
open Go.RowKit Go.Lib

set_option maxRecDepth 100000 in
set_option maxHeartbeats 2000000 in
theorem rdo_any (w : World) (G : Nat) (pv : Value) (k : Dk) (s : Sp) (u : Value) (h : RK w G pv k) (hok : Ok k) (hw : k.wait.length ≤ 999999) (hu : Rd w 1 u s.b.length (bvs s.b)) (hbl : s.b.length ≤ 20000) (hk4 : s.kind ≤ 4) :
    Calls Try.prog 12 #[.pointer (some ⟨G, 0, none⟩), .agg (spC (s, u)).toArray] w (PostR G pv w (doK k s).2) := by
  obtain ⟨kind, log, n, m, x, b⟩ := s
  obtain ⟨a, c, rfl⟩ := hu.slice
  obtain ⟨w1, hw1, k1, b1, s1⟩ := alloc_cb w 31 (spC (⟨kind, log, n, m, x, b⟩, .slice a b.length c))
  have HB := Lib.hid b1
  have H1 := Lib.hid hw1
  have d1 := h.fresh b1
  have C1 := Lib.hid (rappend_any w1 G pv k log (.slice a b.length c) b d1 hok hw (hu.fresh b1) hbl)
  have C2 := Lib.hid (rcut_any w1 G pv k log n d1 hok hw)
  have C3 := Lib.hid (rsync_any w1 G pv k d1 hok hw)
  have C4 := Lib.hid (rfuse_any w1 G pv k n d1)
  simp only [fuseK] at C4
  have D1 := Lib.hid d1
  obtain ⟨R, hR⟩ : ∃ R, R = doK k ⟨kind, log, n, m, x, b⟩ := ⟨_, rfl⟩
  rw [← hR]
  simp only [doK] at hR
  have HR := Lib.hid hR
  simp only at hk4
  change Calls _ _ #[_, .agg #[.int .i64 kind, .int .i64 log, .int .i64 n, .int .i64 m, .int .u8 (x.toNat : Int), .slice a b.length c]] _ _
  clear hw1 k1 b1 s1 d1 h hok hw hu hbl hR
  by_cases e1 : kind = 1
  · subst e1
    have HR2 := HR.out
    simp only [Int.reduceEq, if_true, if_false] at HR2
    rw [← HR2] at C1
    have HRX := Lib.hid HR2
    clear HR2
    go_enter Try.func12, Try.ntmps12
    go_wp2_with fail
    change Calls _ _ _ (w.alloc (.cells (spC (⟨1, log, n, m, x, b⟩, .slice a b.length c)).toArray 31)) _
    rw [← H1.out]
    refine C1.out.mono ?_
    rintro e w2 ⟨⟨r, rfl⟩, q⟩
    have Q := Lib.hid q
    clear q
    go_wp2
    go_ret
    exact PostR.behind HB.out ⟨⟨_, rfl⟩, Q.out⟩
  · by_cases e2 : kind = 2
    · subst e2
      have HR2 := HR.out
      simp only [Int.reduceEq, if_true, if_false] at HR2
      rw [← HR2] at C2
      have HRX := Lib.hid HR2
      clear HR2
      go_enter Try.func12, Try.ntmps12
      go_wp2_with fail
      change Calls _ _ _ (w.alloc (.cells (spC (⟨2, log, n, m, x, b⟩, .slice a b.length c)).toArray 31)) _
      rw [← H1.out]
      refine C2.out.mono ?_
      rintro e w2 ⟨⟨r, rfl⟩, q⟩
      have Q := Lib.hid q
      clear q
      go_wp2
      go_ret
      exact PostR.behind HB.out ⟨⟨_, rfl⟩, Q.out⟩
    · by_cases e3 : kind = 3
      · subst e3
        have HR2 := HR.out
        simp only [Int.reduceEq, if_true, if_false] at HR2
        rw [← HR2] at C3
        have HRX := Lib.hid HR2
        clear HR2
        go_enter Try.func12, Try.ntmps12
        go_wp2_with fail
        change Calls _ _ _ (w.alloc (.cells (spC (⟨3, log, n, m, x, b⟩, .slice a b.length c)).toArray 31)) _
        rw [← H1.out]
        refine C3.out.mono ?_
        rintro e w2 ⟨⟨r, rfl⟩, q⟩
        have Q := Lib.hid q
        clear q
        go_wp2
        go_ret
        exact PostR.behind HB.out ⟨⟨_, rfl⟩, Q.out⟩
      · by_cases e4 : kind = 4
        · subst e4
          have HR2 := HR.out
          simp only [Int.reduceEq, if_true, if_false] at HR2
          rw [← HR2] at C4
          have HRX := Lib.hid HR2
          clear HR2
          go_enter Try.func12, Try.ntmps12
          go_wp2_with fail
          change Calls _ _ _ (w.alloc (.cells (spC (⟨4, log, n, m, x, b⟩, .slice a b.length c)).toArray 31)) _
          rw [← H1.out]
          refine C4.out.mono ?_
          rintro e w2 ⟨⟨r, rfl⟩, q⟩
          have Q := Lib.hid q
          clear q
          go_wp2
          go_ret
          exact PostR.behind HB.out ⟨⟨_, rfl⟩, Q.out⟩
        · have e5 : ¬ kind = 5 := by omega
          have e6 : ¬ kind = 6 := by omega
          have HR2 : Hid (R = (0, k)) := Lib.hid (by have := HR.out; rw [if_neg e1, if_neg e2, if_neg e3, if_neg e4, if_neg e5, if_neg e6] at this; exact this)
          clear hk4
          go_enter Try.func12, Try.ntmps12
          go_wp2
          go_ret
          rw [HR2.out]
          have HF := H1.out
          change PostR G pv w k _ (w.alloc (.cells (spC (⟨kind, log, n, m, x, b⟩, .slice a b.length c)).toArray 31))
          rw [← HF]
          exact ⟨⟨0, rfl⟩, pv, D1.out, Mv.fresh HB.out, fun j hj => .inl hj⟩

end Go.Proofs.Ytbbbgpdhdlknjaa
