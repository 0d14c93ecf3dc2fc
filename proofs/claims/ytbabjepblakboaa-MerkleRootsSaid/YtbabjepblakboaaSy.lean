/- Texts under a name, and parts joined: the walks. -/
import Derived.Test.YtbabjepblakboaaSx
import Derived.Lib.AppendStr
namespace Go.Proofs.Ytbabjepblakboaa
set_option linter.unusedVariables false
set_option linter.unusedSimpArgs false
open Go.RowKit Go.Lib

/-- What is hashed under a name. -/
def textB (s m : List UInt8) : List UInt8 := UInt8.ofNat (s.take 255).length :: (s.take 255 ++ m)

theorem strCells_bvs (s : List UInt8) : strCells ⟨s.toArray⟩ = bvs s := rfl

theorem wpList_append_str {P : Program} (w : World) {ops : Array Oper} {rest : List Oper} {o : Oper} {a : Act} {Q : Exit → Act → World → Prop} (hgd : o.guard = none) (s x : Operand) (t u : TypeId)
    (ho : o.op = .call { callee := .builtin .append, args := #[s, x], argTypes := #[t, u] })
    (base : Nat) (e : TypeId) (i : TypeInfo) (ht : P.underlying t = some (.slice e)) (hu : P.underlying u = some .string) (hi : P.info? e = some i) (hz : i.zero = some (.int .u8 0)) (hsize : i.size = 1) (hby : i.bytes = 1)
    (v : Value) (n : Nat) (xs : List Value) (hs : a.eval s = v) (hown : w.ownsRow base e 1 v n xs) (S : ByteArray) (hx : a.eval x = .string S)
    (hlen : n + S.size ≤ 140737488355328) (hbase : base ≤ w.heap.size)
    (h : ∀ v' w', w'.ownsRow base e 1 v' (n + S.size) (xs ++ strCells S) → w.grownBy w' v.ownBlock → wpList P ops Q rest (a.put o.dst v') w') : wpList P ops Q (o :: rest) a w := by
  refine wpList_plain hgd fun K hK => ?_
  obtain ⟨v', w', hr, h2, h3, h4⟩ := run_append_own_string (P := P) (w := w) base t u o.type e i ht hu hi hz hsize hby v n xs hown S (by unfold maxLen; omega) hlen hbase
  unfold Oper.wp execOp
  simp only [ho, resolve, invoke, builtin, Sem.run_bind, Sem.run_pure, Result.andThen_ok, List.map_toArray, List.map_cons, List.map_nil, hs, hx, hr]
  exact hK _ _ (h v' w' h2 h3)

theorem own_one (w : World) (e : TypeId) (x : Value) (base : Nat) (hb : base ≤ w.heap.size) : (w.alloc (.cells #[x] e)).ownsRow base e 1 (.slice (some ⟨w.heap.size, 0, none⟩) 1 1) 1 [x] :=
  World.ownsRow_lit w #[x] 1 hb (by decide) rfl

theorem str_take (s : List UInt8) (n : Nat) : strCells ((⟨s.toArray⟩ : ByteArray).extract 0 n) = bvs (s.take n) := by
  unfold strCells
  rw [ByteArray.data_extract]
  simp [bvs, bv, Function.comp_def]
  rfl

set_option maxRecDepth 100000 in
theorem text_any (w : World) (v : Value) (s m : List UInt8) (hr : Rd w 1 v m.length (bvs m)) (hm : m.length ≤ 100000000) (hs : s.length ≤ 1000000) :
    Calls Try.prog 154 #[.string ⟨s.toArray⟩, v] w fun e w' => ∃ v', e = .returned v' ∧ Rd w' 1 v' (textB s m).length (bvs (textB s m)) ∧ Below w.heap.size w w' := by
  obtain ⟨i0, hi, hi0, hi1, hi2⟩ := info_parts infoU8
  have hT : (⟨s.toArray⟩ : ByteArray).size = s.length := by simp [ByteArray.size]
  obtain ⟨a0, c0, rfl⟩ := hr.slice
  obtain ⟨n, hn⟩ : ∃ n, n = m.length := ⟨_, rfl⟩
  rw [← hn] at hr hm ⊢
  obtain ⟨L0, hL0⟩ : ∃ x : UInt8, x = UInt8.ofNat (s.take 255).length := ⟨_, rfl⟩
  obtain ⟨N, hN⟩ : ∃ N, N = s.take 255 := ⟨_, rfl⟩
  have htx : textB s m = L0 :: (N ++ m) := by rw [hL0, hN]; rfl
  have hNl : N.length = min 255 s.length := by rw [hN, List.length_take]
  have HTX := Lib.hid htx
  have HR := Lib.hid hr
  have HLN := Lib.hid hm
  have HNN := Lib.hid hn
  clear htx hr hm hn
  have h0 := str_take s 255
  rw [← hN] at h0
  have h0l : ((⟨s.toArray⟩ : ByteArray).extract 0 255).size = min 255 s.length := by rw [ByteArray.size_extract, hT]; omega
  by_cases h255 : 255 < s.length
  · have hTi : (255 : Int) < ((⟨s.toArray⟩ : ByteArray).size : Int) := by omega
    obtain ⟨TT, hTT⟩ : ∃ t, t = (⟨s.toArray⟩ : ByteArray).extract 0 255 := ⟨_, rfl⟩
    rw [← hTT] at h0 h0l
    have HTT := Lib.hid (And.intro h0 (show TT.size ≤ 255 by omega))
    have hlb : Value.int .u8 255 = bv L0 := by
      rw [hL0, List.length_take, bv_ofNat]
      rw [show min 255 s.length = 255 by omega]
      rfl
    have HLB := Lib.hid hlb
    have hsz : TT.size = 255 := by omega
    clear h0 h0l hlb hL0 hN hNl hT
    generalize (⟨s.toArray⟩ : ByteArray) = T at *
    have htt' : T.extract 0 255 = TT := hTT.symm
    clear hTT
    go_enter Try.func154, Try.ntmps154
    go_wp2_with (at_builtin; apply Stop.mk)
    refine Stop.go ?_
    rw [HLB.out]
    obtain ⟨wa, hwa, hza, hba, hoa⟩ : ∃ wa, wa = w.alloc (.cells #[bv L0] 5) ∧ wa.heap.size = w.heap.size + 1 ∧ Below w.heap.size w wa ∧ wa.ownsRow w.heap.size 5 1 (.slice (some ⟨w.heap.size, 0, none⟩) 1 1) 1 (bvs [L0]) :=
      ⟨_, rfl, Array.size_push _, (Below.refl _ w).alloc (Nat.le_refl _) _, own_one w _ _ _ (Nat.le_refl _)⟩
    change wpList _ _ _ _ _ (w.alloc (.cells #[bv L0] 5))
    rw [← hwa]
    clear hwa
    have hra := HR.out.fresh hba
    refine wpList_append_str _ rfl (.tmp 13) (.tmp 14) 42 9 rfl w.heap.size 5 i0 Try.underlying42 Try.underlying9 hi hi0 hi1 hi2 (.slice (some ⟨w.heap.size, 0, none⟩) 1 1) 1 _ rfl hoa TT rfl (by have := HTT.out.2; omega) (by omega) ?_
    intro v1 w1 hown hgr
    have hb1 : Below w.heap.size w w1 := hba.grown hgr (by omega) (by simp [Value.ownBlock])
    have hr1 : Rd w1 1 (.slice a0 n c0) n (bvs m) := HR.out.below' hb1 rfl
    rw [HTT.out.1] at hown
    have hown2 : w1.ownsRow w.heap.size 5 1 v1 (1 + TT.size) (bvs (L0 :: N)) := hown
    obtain ⟨a1, c1, rfl⟩ := own_slice hown2
    have HO1 := Lib.hid hown2
    have HR1 := Lib.hid hr1
    have HB1 := Lib.hid hb1
    have hs1 : w.heap.size ≤ w1.heap.size := hb1.size
    clear hown hown2 hgr hb1 hr1 hra hoa hba hza
    obtain ⟨K, hK⟩ : ∃ K, K = 1 + TT.size := ⟨_, rfl⟩
    rw [← hK] at HO1 ⊢
    have HK := Lib.hid hK
    clear hK
    go_wp2_with (at_builtin; apply Stop.mk)
    refine Stop.go ?_
    refine wpList_append_rd _ rfl (.tmp 15) (.tmp 16) 42 rfl w.heap.size 5 i0 (.int .u8 0) 1 1 Try.underlying42 hi hi0 hi1 hi2 rfl (by decide) (.slice a1 K c1) K _ rfl HO1.out (.slice a0 n c0) n (bvs m) rfl HR1.out (bvs_one _) (by unfold maxLen; have := HK.out; have := HTT.out.2; have := HLN.out; omega) (by have := HK.out; have := HTT.out.2; have := HLN.out; omega) hs1 ?_
    intro v2 w2 hown2 hgr2 _ _
    have hb2 : Below w.heap.size w w2 := HB1.out.grown hgr2 hs1 (own_base HO1.out)
    have hr2 : Rd w2 1 v2 (textB s m).length (bvs (textB s m)) := by
      have h1 := Rd.of_own hown2
      rw [← bvs_append, List.cons_append] at h1
      have h2 : textB s m = L0 :: (N ++ m) := HTX.out
      have h3 : (L0 :: (N ++ m)).length = K + n := by have := h1.1; simpa using this
      rw [h2, h3]
      exact h1
    obtain ⟨a2, c2, rfl⟩ := hr2.slice
    have HR2 := Lib.hid hr2
    have HB2 := Lib.hid hb2
    clear hown2 hgr2 hb2 hr2
    go_wp2
    go_ret
    exact ⟨_, rfl, HR2.out, HB2.out⟩
  · have hTi : ¬ ((255 : Int) < ((⟨s.toArray⟩ : ByteArray).size : Int)) := by omega
    have hN' : N = s := by rw [hN, List.take_of_length_le (by omega)]
    obtain ⟨TT, hTT⟩ : ∃ t, t = (⟨s.toArray⟩ : ByteArray) := ⟨_, rfl⟩
    rw [← hTT] at hT hTi ⊢
    have h1 : strCells TT = bvs N := by rw [hTT, hN']; rfl
    have HTT := Lib.hid (And.intro h1 (show TT.size ≤ 255 by omega))
    obtain ⟨z, hz⟩ : ∃ z, z = TT.size := ⟨_, rfl⟩
    have hz' : IntKind.u8.wrap (z : Int) = (z : Int) := by
      rw [IntKind.wrap_u8']
      omega
    have hlb : Value.int .u8 (z : Int) = bv L0 := by
      rw [hL0, List.length_take, bv_ofNat, show min 255 s.length = z by omega]
      congr 1
      omega
    have HLB := Lib.hid hlb
    have hsz : TT.size = z := hz.symm
    clear h0 h0l hlb hL0 hN hNl hT h1 hN' hTT hz
    go_enter Try.func154, Try.ntmps154
    go_wp2_with (at_builtin; apply Stop.mk)
    refine Stop.go ?_
    rw [HLB.out]
    obtain ⟨wa, hwa, hza, hba, hoa⟩ : ∃ wa, wa = w.alloc (.cells #[bv L0] 5) ∧ wa.heap.size = w.heap.size + 1 ∧ Below w.heap.size w wa ∧ wa.ownsRow w.heap.size 5 1 (.slice (some ⟨w.heap.size, 0, none⟩) 1 1) 1 (bvs [L0]) :=
      ⟨_, rfl, Array.size_push _, (Below.refl _ w).alloc (Nat.le_refl _) _, own_one w _ _ _ (Nat.le_refl _)⟩
    change wpList _ _ _ _ _ (w.alloc (.cells #[bv L0] 5))
    rw [← hwa]
    clear hwa
    have hra := HR.out.fresh hba
    refine wpList_append_str _ rfl (.tmp 13) (.tmp 14) 42 9 rfl w.heap.size 5 i0 Try.underlying42 Try.underlying9 hi hi0 hi1 hi2 (.slice (some ⟨w.heap.size, 0, none⟩) 1 1) 1 _ rfl hoa TT rfl (by have := HTT.out.2; omega) (by omega) ?_
    intro v1 w1 hown hgr
    have hb1 : Below w.heap.size w w1 := hba.grown hgr (by omega) (by simp [Value.ownBlock])
    have hr1 : Rd w1 1 (.slice a0 n c0) n (bvs m) := HR.out.below' hb1 rfl
    rw [HTT.out.1] at hown
    have hown2 : w1.ownsRow w.heap.size 5 1 v1 (1 + TT.size) (bvs (L0 :: N)) := hown
    obtain ⟨a1, c1, rfl⟩ := own_slice hown2
    have HO1 := Lib.hid hown2
    have HR1 := Lib.hid hr1
    have HB1 := Lib.hid hb1
    have hs1 : w.heap.size ≤ w1.heap.size := hb1.size
    clear hown hown2 hgr hb1 hr1 hra hoa hba hza
    obtain ⟨K, hK⟩ : ∃ K, K = 1 + TT.size := ⟨_, rfl⟩
    rw [← hK] at HO1 ⊢
    have HK := Lib.hid hK
    clear hK
    go_wp2_with (at_builtin; apply Stop.mk)
    refine Stop.go ?_
    refine wpList_append_rd _ rfl (.tmp 15) (.tmp 16) 42 rfl w.heap.size 5 i0 (.int .u8 0) 1 1 Try.underlying42 hi hi0 hi1 hi2 rfl (by decide) (.slice a1 K c1) K _ rfl HO1.out (.slice a0 n c0) n (bvs m) rfl HR1.out (bvs_one _) (by unfold maxLen; have := HK.out; have := HTT.out.2; have := HLN.out; omega) (by have := HK.out; have := HTT.out.2; have := HLN.out; omega) hs1 ?_
    intro v2 w2 hown2 hgr2 _ _
    have hb2 : Below w.heap.size w w2 := HB1.out.grown hgr2 hs1 (own_base HO1.out)
    have hr2 : Rd w2 1 v2 (textB s m).length (bvs (textB s m)) := by
      have h1 := Rd.of_own hown2
      rw [← bvs_append, List.cons_append] at h1
      have h2 : textB s m = L0 :: (N ++ m) := HTX.out
      have h3 : (L0 :: (N ++ m)).length = K + n := by have := h1.1; simpa using this
      rw [h2, h3]
      exact h1
    obtain ⟨a2, c2, rfl⟩ := hr2.slice
    have HR2 := Lib.hid hr2
    have HB2 := Lib.hid hb2
    clear hown2 hgr2 hb2 hr2
    go_wp2
    go_ret
    exact ⟨_, rfl, HR2.out, HB2.out⟩
end Go.Proofs.Ytbabjepblakboaa
