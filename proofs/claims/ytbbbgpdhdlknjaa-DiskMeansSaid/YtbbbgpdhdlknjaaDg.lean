/- Disks: Append: the walk. -/
import Derived.Test.YtbbbgpdhdlknjaaDf
namespace Go.Proofs.Ytbbbgpdhdlknjaa
set_option linter.unusedVariables false
set_option linter.unusedSimpArgs false
open Go.RowKit Go.Lib

/-- What Append answers, and the disk behind it. -/
def appK (k : Dk) (i : Nat) (b : Bs) : Int × Dk :=
  if k.dead then (20, k) else if 16777216 < (k.now.getD i []).length + b.length then (8, k) else ((burnK k).1, putK k (.put i b))

theorem append_no [Inhabited (Option Nat)] (w : World) (D S : Nat) (wv : Value) (k : Dk) (i : Int) (v : Value) (h : DkAt w D S wv k) (hi : hasB i = false) : Calls Try.prog 27 #[.pointer (some ⟨D, 0, none⟩), .int .i64 i, v] w fun e w' => e = .returned (.int .i64 2) ∧ w = w' := by
  have T := Lib.hid (there_any w D S wv k h)
  have U := Lib.hid (has_no w i hi)
  clear h hi
  go_enter Try.func27, Try.ntmps27
  go_wp2_with fail
  refine (T.out).mono ?_
  rintro e w1 ⟨rfl, rfl⟩
  go_wp2_with fail
  refine (U.out).mono ?_
  rintro e w1 ⟨rfl, rfl⟩
  go_wp2
  go_ret
  exact ⟨rfl, rfl⟩

theorem mem_set_le {l : List Bs} {i m : Nat} {b : Bs} (h : ∀ x ∈ l, x.length ≤ m) (hb : b.length ≤ m) : ∀ x ∈ l.set i b, x.length ≤ m := by
  intro x hx
  rcases List.mem_or_eq_of_mem_set hx with hx | rfl
  · exact h x hx
  · exact hb

set_option maxRecDepth 100000 in
set_option maxHeartbeats 1000000 in
theorem append_any [Inhabited (Option Nat)] (w : World) (D S : Nat) (wv : Value) (k : Dk) (i : Nat) (v : Value) (b : Bs) (h : DkAt w D S wv k) (hi : i < 16) (hb : Rd w 1 v b.length (bvs b)) (hbl : b.length ≤ 100000000) (hf : 0 ≤ k.fuse) (hf' : k.fuse ≤ 9223372036854775807)
    (hl : ∀ l ∈ k.now, l.length ≤ 16777216) (hw : k.wait.length ≤ 1000000) (hav : Av w.heap.size) :
    Calls Try.prog 27 #[.pointer (some ⟨D, 0, none⟩), .int .i64 (i : Int), v] w fun e w' => e = .returned (.int .i64 (appK k i b).1) ∧ ∃ wv', DkAt w' D S wv' (appK k i b).2 ∧ Mv D S wv w w' ∧ Grew w wv wv' := by
  have hb' := hb
  obtain ⟨ab, cb, rfl⟩ := hb'.slice
  have hat := h
  obtain ⟨vs, ns, css, hd⟩ := h
  obtain ⟨u, l, hv, hls, hr, hg⟩ := hd.ln.get hi
  have hc7 := hd.cd.cell (i + 1) _ ((dkC_now hd.ln.1 hi).trans hv)
  rw [Nat.add_comm i 1] at hc7
  have hc20 := hd.cd.cell 20 _ (dkC_tail hd.ln.1 3)
  have hll : l.length ≤ 16777216 := hl l (List.mem_of_getElem? hls)
  obtain ⟨al, cl, rfl⟩ := hr.slice
  obtain ⟨n, hn⟩ : ∃ n, n = l.length := ⟨_, rfl⟩
  obtain ⟨m, hm⟩ : ∃ m, m = b.length := ⟨_, rfl⟩
  have T := Lib.hid (there_any w D S wv k hat)
  have U := Lib.hid (has_yes w i hi)
  have bi : (i : Int) < 16 := by omega
  have bn : (n : Int) ≤ 16777216 := by omega
  have bm : (m : Int) ≤ 100000000 := by omega
  rw [← hn] at hc7
  have HB := Lib.hid hb
  have HI := Lib.hid hi
  have HAT := Lib.hid hat
  have HK := Lib.hid (And.intro hf (And.intro hf' (And.intro hl hw)))
  have HX := Lib.hid (And.intro hg (And.intro hn hm))
  have HBL := Lib.hid hbl
  have AV := Lib.hid hav
  rw [← hm]
  clear hav hb hb' hi hat hf hf' hl hw hd hv hls hr hg hll hbl hn hm
  cases hdd : k.dead
  case true =>
    have e1 : Hid (appK k i b = (20, k)) := Lib.hid (by simp [appK, hdd])
    rw [hdd] at hc20
    clear hdd
    go_enter Try.func27, Try.ntmps27
    go_wp2_with fail
    refine (T.out).mono ?_
    rintro e w1 ⟨rfl, rfl⟩
    go_wp2_with fail
    refine (U.out).mono ?_
    rintro e w1 ⟨rfl, rfl⟩
    go_wp2
    go_ret
    rw [e1.out]
    exact ⟨rfl, wv, HAT.out, Mv.refl _ _ _ _, fun k hk => .inl hk⟩
  case false =>
    rw [hdd] at hc20
    have HD := Lib.hid hdd
    clear hdd
    by_cases hfull : 16777216 < n + m
    · have e1 : Hid (appK k i b = (8, k)) := Lib.hid (by simp only [appK, HD.out, Bool.false_eq_true, if_false]; rw [if_pos (by rw [HX.out.1, ← HX.out.2.1, ← HX.out.2.2]; exact hfull)])
      have hfull' : 16777216 - (n : Int) < (m : Int) := by omega
      go_enter Try.func27, Try.ntmps27
      go_wp2_with fail
      refine (T.out).mono ?_
      rintro e w1 ⟨rfl, rfl⟩
      go_wp2_with fail
      refine (U.out).mono ?_
      rintro e w1 ⟨rfl, rfl⟩
      go_wp2
      go_ret
      rw [e1.out]
      exact ⟨rfl, wv, HAT.out, Mv.refl _ _ _ _, fun k hk => .inl hk⟩
    · have e1 : Hid (appK k i b = ((burnK k).1, putK k (.put i b))) := Lib.hid (by simp only [appK, HD.out, Bool.false_eq_true, if_false]; rw [if_neg (by rw [HX.out.1, ← HX.out.2.1, ← HX.out.2.2]; exact hfull)])
      have hfull' : ¬ 16777216 - (n : Int) < (m : Int) := by omega
      have HF := Lib.hid hfull
      clear hfull
      go_enter Try.func27, Try.ntmps27
      go_wp2_with fail
      refine (T.out).mono ?_
      rintro e w1 ⟨rfl, rfl⟩
      go_wp2_with fail
      refine (U.out).mono ?_
      rintro e w1 ⟨rfl, rfl⟩
      have C := Lib.hid (clone_byte0 w _ b.length (bvs b) HB.out (bvs_one _) HBL.out)
      rw [← HX.out.2.2] at C
      go_wp2_with fail
      refine (C.out).mono ?_
      rintro e w2 ⟨v2, rfl, o2, b2⟩
      clear hc7 hc20
      rw [HX.out.2.2] at o2
      have R2 := Lib.hid (RdU.of_own o2 AV.out)
      have B2 := Lib.hid b2
      clear o2 b2
      go_wp2_with fail
      refine (adds_any w2 i HI.out v2 b R2.out).mono ?_
      rintro e w3 ⟨g1, g2, rfl, s3, b3⟩
      obtain ⟨a2, c2, rfl⟩ := R2.out.slice
      have S3 := Lib.hid s3
      have B3 := Lib.hid (B2.out.tr b3)
      have F3 : Hid (StF w3 66 g1 g2 (.put i b)) := Lib.hid (by
        obtain ⟨hi, x1, x2, xv, hx, y1, y2, y3⟩ := s3
        simp only [stV, List.cons.injEq, Value.func.injEq, Array.mk.injEq, Value.pointer.injEq, Option.some.injEq, Addr.mk.injEq, and_true, true_and, Value.int.injEq] at hx
        obtain ⟨⟨rfl, rfl⟩, rfl⟩ := hx
        exact ⟨rfl, hi, _, y1, y2, y3⟩)
      clear s3 b3 R2 B2
      go_wp2_with fail
      refine (put_any w3 D S wv k (HAT.out.fresh B3.out) 66 g1 g2 (i : Int) a2 b.length c2 (.put i b) S3.out F3.out HK.out.1 HK.out.2.1 (by rw [app_put, HX.out.1]; exact mem_set_le (fun x hx => by have := HK.out.2.2.1 x hx; omega) (by have := HF.out; have h1 := HX.out.2.1; have h2 := HX.out.2.2; simp; omega)) HK.out.2.2.2 (AV.out.mono B3.out.size)).mono ?_
      rintro e w4 ⟨rfl, wv', d4, m4, g4⟩
      have D4 := Lib.hid (And.intro d4 (And.intro m4 g4))
      clear d4 m4 g4
      go_wp2
      go_ret
      rw [e1.out]
      exact ⟨rfl, wv', D4.out.1, (Mv.fresh B3.out).tr' D4.out.2.1, fun j hj => (D4.out.2.2 j hj).imp id (fun h => Nat.le_trans B3.out.size h)⟩

end Go.Proofs.Ytbbbgpdhdlknjaa
