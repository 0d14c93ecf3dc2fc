/- ShaMeans: the hash does not hang on where parts are cut; under unlike names, and of unlike bytes, what is hashed is unlike. No condition beside the statement's own. -/
import Derived.Test.YtdljpgihfjpnjaaRows
import Derived.Test.YtdljpgihfjpnjaaRowB
import Derived.Test.YtdljpgihfjpnjaaSi
namespace Go.Proofs.Ytdljpgihfjpnjaa
set_option linter.unusedVariables false
set_option linter.unusedSimpArgs false
open Go.ChangeShapes Go.WideShapes Go.ChangeAt Go.RowKit Go.Deep Go.Lib

set_option maxRecDepth 100000 in
theorem shameans_any (w : World) (vm vn : Value) (one two : Int) (s t m n : List UInt8) (hm : Rd w 1 vm m.length (bvs m)) (hn : Rd w 1 vn n.length (bvs n)) :
    Calls Try.prog 8 #[vm, vn, .int .i64 one, .int .i64 two, .string ⟨s.toArray⟩, .string ⟨t.toArray⟩] w fun e w' => e = .returned (.bool true) ∧ Below w.heap.size w w' := by
  have hS : (⟨s.toArray⟩ : ByteArray).size = s.length := by simp [ByteArray.size]
  have hT : (⟨t.toArray⟩ : ByteArray).size = t.length := by simp [ByteArray.size]
  have HK := Lib.hid (fun w0 => sknown_any w0)
  by_cases h_0 : 3000 < m.length
  · have i1 : (3000 : Int) < (m.length : Int) := by omega
    obtain ⟨ma, mc, rfl⟩ := hm.slice
    obtain ⟨na, nc, rfl⟩ := hn.slice
    clear hm hn
    generalize (⟨s.toArray⟩ : ByteArray) = SS at *
    generalize (⟨t.toArray⟩ : ByteArray) = TT at *
    go_enter Try.func8, Try.ntmps8
    go_wp2_with fail
    refine (HK.out _).mono ?_
    rintro e w1 ⟨rfl, hb1⟩
    have HB1 := Lib.hid hb1
    clear hb1
    go_wp2
    go_ret
    exact ⟨rfl, HB1.out⟩
  by_cases h_1 : 3000 < n.length
  · have i1 : ¬ ((3000 : Int) < (m.length : Int)) := by omega
    have i2 : (3000 : Int) < (n.length : Int) := by omega
    obtain ⟨ma, mc, rfl⟩ := hm.slice
    obtain ⟨na, nc, rfl⟩ := hn.slice
    clear hm hn
    generalize (⟨s.toArray⟩ : ByteArray) = SS at *
    generalize (⟨t.toArray⟩ : ByteArray) = TT at *
    go_enter Try.func8, Try.ntmps8
    go_wp2_with fail
    refine (HK.out _).mono ?_
    rintro e w1 ⟨rfl, hb1⟩
    have HB1 := Lib.hid hb1
    clear hb1
    go_wp2
    go_ret
    exact ⟨rfl, HB1.out⟩
  by_cases h_2 : 200 < s.length
  · have i1 : ¬ ((3000 : Int) < (m.length : Int)) := by omega
    have i2 : ¬ ((3000 : Int) < (n.length : Int)) := by omega
    have i3 : (200 : Int) < ((⟨s.toArray⟩ : ByteArray).size : Int) := by omega
    obtain ⟨ma, mc, rfl⟩ := hm.slice
    obtain ⟨na, nc, rfl⟩ := hn.slice
    clear hm hn
    generalize (⟨s.toArray⟩ : ByteArray) = SS at *
    generalize (⟨t.toArray⟩ : ByteArray) = TT at *
    go_enter Try.func8, Try.ntmps8
    go_wp2_with fail
    refine (HK.out _).mono ?_
    rintro e w1 ⟨rfl, hb1⟩
    have HB1 := Lib.hid hb1
    clear hb1
    go_wp2
    go_ret
    exact ⟨rfl, HB1.out⟩
  by_cases h_3 : 200 < t.length
  · have i1 : ¬ ((3000 : Int) < (m.length : Int)) := by omega
    have i2 : ¬ ((3000 : Int) < (n.length : Int)) := by omega
    have i3 : ¬ ((200 : Int) < ((⟨s.toArray⟩ : ByteArray).size : Int)) := by omega
    have i4 : (200 : Int) < ((⟨t.toArray⟩ : ByteArray).size : Int) := by omega
    obtain ⟨ma, mc, rfl⟩ := hm.slice
    obtain ⟨na, nc, rfl⟩ := hn.slice
    clear hm hn
    generalize (⟨s.toArray⟩ : ByteArray) = SS at *
    generalize (⟨t.toArray⟩ : ByteArray) = TT at *
    go_enter Try.func8, Try.ntmps8
    go_wp2_with fail
    refine (HK.out _).mono ?_
    rintro e w1 ⟨rfl, hb1⟩
    have HB1 := Lib.hid hb1
    clear hb1
    go_wp2
    go_ret
    exact ⟨rfl, HB1.out⟩
  exact means_tail w vm vn one two s t m n hm hn (by omega) (by omega) (by omega) (by omega)

section
variable {H : Type} {enc : TypeId × Value → H} {P : Program} {w : World} {base : Nat} {spare : Nat → Bool} {held : Bool}

theorem trodAll_six {t0 t1 t2 t3 t4 t5 : TypeId} {args : Array Value} {ds : List (DataW H)} {ps : List MemPlace} (h : DataW.TrodAll enc P w base spare held [t0, t1, t2, t3, t4, t5] args.toList ds ps) :
    ∃ v0 v1 v2 v3 v4 v5 d0 d1 d2 d3 d4 d5 p0 p1 p2 p3 p4 p5, args = #[v0, v1, v2, v3, v4, v5] ∧ ds = [d0, d1, d2, d3, d4, d5] ∧ ps = p0 ++ (p1 ++ (p2 ++ (p3 ++ (p4 ++ p5)))) ∧ DataW.Trod enc P w base spare held t0 v0 d0 p0 ∧ DataW.Trod enc P w base spare held t1 v1 d1 p1 ∧ DataW.Trod enc P w base spare held t2 v2 d2 p2 ∧ DataW.Trod enc P w base spare held t3 v3 d3 p3 ∧ DataW.Trod enc P w base spare held t4 v4 d4 p4 ∧ DataW.Trod enc P w base spare held t5 v5 d5 p5 := by
  obtain ⟨v0, vs0, d0, ds0, p0, q0, hargs, rfl, rfl, h0, r0⟩ := trodAll_cons h
  obtain ⟨v1, vs1, d1, ds1, p1, q1, rfl, rfl, rfl, h1, r1⟩ := trodAll_cons r0
  obtain ⟨v2, vs2, d2, ds2, p2, q2, rfl, rfl, rfl, h2, r2⟩ := trodAll_cons r1
  obtain ⟨v3, vs3, d3, ds3, p3, q3, rfl, rfl, rfl, h3, r3⟩ := trodAll_cons r2
  obtain ⟨v4, vs4, d4, ds4, p4, q4, rfl, rfl, rfl, h4, r4⟩ := trodAll_cons r3
  obtain ⟨v5, vs5, d5, ds5, p5, q5, rfl, rfl, rfl, h5, r5⟩ := trodAll_cons r4
  obtain ⟨rfl, rfl, rfl⟩ := trodAll_nil r5
  exact ⟨v0, v1, v2, v3, v4, v5, d0, d1, d2, d3, d4, d5, p0, p1, p2, p3, p4, p5, by cases args; simp_all, rfl, by simp, h0, h1, h2, h3, h4, h5⟩
end

set_option maxRecDepth 100000 in
theorem shameans_lifted (os : Os) (started : os.Started) (H : Type) (enc : TypeId × Value → H) :
    ReturnsInHanded {} Try.checked os 8 .any (Rows.shaMeansSpec.pre6 enc Try.prog Try.f8 Rows.shaMeansRow.domain false) (Rows.shaMeansSpec.post enc Try.prog Try.f8 false true false false) := by
  refine returnsInHanded_of_change (C := Try.checked) ownKnobNone started (by kernel_rfl) Try.func8
    (ChangeSpec.witness6 (enc := enc) (C := Try.checked) false ⟨#[], #[.slice none 0 0, .slice none 0 0, .int .i64 0, .int .i64 0, .string ⟨#[]⟩, .string ⟨#[]⟩], []⟩ 8 (by kernel_rfl) (by kernel_rfl) (by kernel_rfl) (by kernel_rfl)) ?_
  intro W base args ds gs before hval0 hW hcnd _
  have hval : ∀ (j : Nat) t v, Try.f8.params[j]? = some t → args[j]? = some v → Value.okWide Try.prog W .any base t v := hval0
  have hW' := hW
  obtain ⟨p, q, hA0, hV, rfl, hfz, hnd⟩ := hW
  have hA : DataW.TrodAll enc Try.prog W 0 (fun _ => true) true Try.f8.params.toList args.toList ds p := hA0
  rw [Try.params8] at hA hval
  obtain ⟨v0, v1, v2, v3, v4, v5, d0, d1, d2, d3, d4, d5, p0, p1, p2, p3, p4, p5, rfl, rfl, rfl, h0, h1, h2, h3, h4, h5⟩ := trodAll_six hA
  obtain ⟨rfl, rfl⟩ := trodVars_none hV
  obtain ⟨a, len, cap, rfl⟩ := okWide_slice Try.underlying25 (hval 0 _ _ rfl rfl)
  obtain ⟨a1, len1, cap1, rfl⟩ := okWide_slice Try.underlying25 (hval 1 _ _ rfl rfl)
  obtain ⟨one, rfl⟩ := okWide_int Try.underlying3 (hval 2 _ _ rfl rfl)
  obtain ⟨two, rfl⟩ := okWide_int Try.underlying3 (hval 3 _ _ rfl rfl)
  obtain ⟨s, rfl⟩ := okWide_string Try.underlying9 (hval 4 _ _ rfl rfl)
  obtain ⟨t, rfl⟩ := okWide_string Try.underlying9 (hval 5 _ _ rfl rfl)
  obtain ⟨fuel, hf⟩ := h0
  obtain ⟨fuel1, hf1⟩ := h1
  obtain ⟨v, m, hv, hm⟩ := opened_bytes Try.underlying25 Try.underlying5 cellsU8 hf
  obtain ⟨u, n, hu, hn⟩ := opened_bytes Try.underlying25 Try.underlying5 cellsU8 hf1
  simp only [Value.cells, List.cons.injEq, and_true] at hv hu
  subst hv hu
  refine (shameans_any W _ _ one two s.data.toList t.data.toList m n hm hn).mono fun e W' ⟨he, hb⟩ => ?_
  subst he
  exact ⟨_, rfl, post_true 4 laidOutTrue (by kernel_rfl) rfl Try.underlying4 rfl hW' rfl hb⟩

theorem shameans_holds : Rows.ShaMeansSaid :=
  OpenClaim.holds_of_wide 8 Try.f8 rfl rfl rfl rfl rfl rfl rfl ⟨rfl, rfl, rfl, rfl, rfl⟩ rfl rfl rfl rfl rfl (by kernel_rfl) Try.func8 (by kernel_rfl)
    (of_decide_eq_true (by kernel_rfl)) (by unfold Func.isWrapper; rw [if_neg (of_decide_eq_false (by kernel_rfl))]; exact ⟨rfl, rfl⟩)
    (fun os started H enc _ => shameans_lifted os started H enc)

end Go.Proofs.Ytdljpgihfjpnjaa
