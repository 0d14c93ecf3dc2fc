/- Texts Ys Yt Yu Yv, one behind the other. -/
import Derived.Test.YtbabjepblakboaaG1
import Derived.Test.YtbabjepblakboaaG4
/- Merkle: trees, the ways through them: the plain law of collisions. -/
namespace Go.Proofs.Ytbabjepblakboaa
set_option linter.unusedVariables false
set_option linter.unusedSimpArgs false

/-- A tree of leaves and knots. -/
inductive Tr where
  | leaf (x : Bs)
  | knot (a b : Tr)

instance : Inhabited Tr := ⟨.leaf []⟩

def leafT (x : Bs) : Bs := textB [108, 101, 97, 102] x
def knotT (a b : Bs) : Bs := textB [107, 110, 111, 116] (a ++ b)
def topT (n : Nat) (m : Bs) : Bs := textB [114, 111, 111, 116] (le n 8 ++ m)

def Tr.hash : Tr → Bs
  | .leaf x => leafB x
  | .knot a b => knotB a.hash b.hash

def Tr.text : Tr → Bs
  | .leaf x => leafT x
  | .knot a b => knotT a.hash b.hash

theorem Tr.hash_text (t : Tr) : t.hash = shaB t.text := by cases t <;> rfl
theorem Tr.hash_length (t : Tr) : t.hash.length = 32 := by cases t <;> exact shaB_length _

theorem up_map {α β : Type} (K : α → α → α) (L : β → β → β) (f : α → β) (hf : ∀ a b, f (K a b) = L (f a) (f b)) (l : List α) : (up K l).map f = up L (l.map f) := by
  induction l using up.induct with
  | case1 a b l ih => simp [up, ih, hf]
  | case2 a => rfl
  | case3 => rfl

theorem upN_map {α β : Type} (K : α → α → α) (L : β → β → β) (f : α → β) (hf : ∀ a b, f (K a b) = L (f a) (f b)) (t : Nat) (l : List α) : (upN K t l).map f = upN L t (l.map f) := by
  induction t with
  | zero => rfl
  | succ t ih => rw [upN, upN, up_map K L f hf, ih]

theorem leftM_map {α β : Type} (K : α → α → α) (L : β → β → β) (f : α → β) (d : α) (e : β) (hf : ∀ a b, f (K a b) = L (f a) (f b)) (m : Nat) (l : List α) (h1 : 1 ≤ l.length) (h2 : l.length ≤ 2 ^ m) : f (leftM K d m l) = leftM L e m (l.map f) := by
  have h3 := upN_left K d m l h1 h2
  have h4 := upN_left L e m (l.map f) (by simpa using h1) (by simpa using h2)
  rw [← upN_map K L f hf, h3] at h4
  simpa using h4

/-- The tree of leaves. -/
def treeT (l : List Bs) : Tr := leftM Tr.knot default 20 (l.map Tr.leaf)

theorem treeT_hash (l : List Bs) (h1 : 1 ≤ l.length) (h2 : l.length ≤ 1048576) : (treeT l).hash = leftM knotB [] 20 (l.map leafB) := by
  unfold treeT
  rw [leftM_map Tr.knot knotB Tr.hash default [] (fun _ _ => rfl) 20 _ (by simpa using h1) (by simpa using h2), List.map_map]
  rfl

/-- Down a tree, from above. -/
def Tr.sub : Tr → List Bool → Tr
  | t, [] => t
  | .knot a _, false :: r => a.sub r
  | .knot _ b, true :: r => b.sub r
  | .leaf x, _ :: _ => .leaf x

/-- The turns of a place, from above. -/
def dirsM : Nat → Nat → Nat → List Bool
  | 0, _, _ => []
  | m + 1, n, c => if c ≤ 2 ^ m then dirsM m n c else if n < 2 ^ m then false :: dirsM m n (2 ^ m) else true :: dirsM m (n - 2 ^ m) (c - 2 ^ m)

theorem dirsM_length (m n c : Nat) : (dirsM m n c).length = sizeM m n c := by
  induction m generalizing n c with
  | zero => rfl
  | succ m ih =>
    rw [dirsM, sizeM]
    split
    · exact ih n c
    · split <;> simp [ih] <;> omega

theorem tree_sub (m n : Nat) (l : List Bs) (hn : n < l.length) (hl : l.length ≤ 2 ^ m) : (leftM Tr.knot default m (l.map Tr.leaf)).sub (dirsM m n l.length) = .leaf (l.getD n []) := by
  induction m generalizing n l with
  | zero =>
    obtain ⟨x, rfl⟩ := List.length_eq_one_iff.1 (show l.length = 1 by simp at hl; omega)
    simp at hn; subst hn
    rfl
  | succ m ih =>
    have hp : 2 ^ (m + 1) = 2 ^ m * 2 := Nat.pow_succ _ _
    rw [leftM, dirsM, List.length_map]
    by_cases h : l.length ≤ 2 ^ m
    · rw [if_pos h, if_pos h]
      exact ih n l hn h
    · rw [if_neg h, if_neg h, ← List.map_take, ← List.map_drop]
      have l1 : (l.take (2 ^ m)).length = 2 ^ m := by rw [List.length_take]; omega
      have l2 : (l.drop (2 ^ m)).length = l.length - 2 ^ m := List.length_drop
      by_cases hk : n < 2 ^ m
      · rw [if_pos hk, Tr.sub]
        have h1 := ih n (l.take (2 ^ m)) (by omega) (by omega)
        rw [l1] at h1
        rw [h1]
        congr 1
        simp [List.getD_eq_getElem?_getD, hk]
      · rw [if_neg hk, Tr.sub]
        have h1 := ih (n - 2 ^ m) (l.drop (2 ^ m)) (by omega) (by omega)
        rw [l2] at h1
        rw [h1]
        congr 1
        simp only [List.getD_eq_getElem?_getD, List.getElem?_drop]
        congr 2
        omega

/-- The turns behind t rows, from below. -/
def accD (n c : Nat) : Nat → List Bool
  | 0 => []
  | t + 1 => accD n c t ++ (if bes (n / 2 ^ t) < cnt c t then [(n / 2 ^ t) % 2 == 1] else [])

/-- One place up: its hash, beside what. -/
def stepW (h : Bs) (s : Bs × Bool) : Bs := if s.2 then knotB s.1 h else knotB h s.1
def stepWT (h : Bs) (s : Bs × Bool) : Bs := if s.2 then knotT s.1 h else knotT h s.1

theorem accD_length (n c t : Nat) : (accD n c t).length = accS n c t := by
  induction t with
  | zero => rfl
  | succ t ih =>
    rw [accD, accS, List.length_append, ih]
    split <;> rfl

theorem accD_stop (n c t : Nat) (hn : n < c) (h : cnt c t ≤ 1) (m : Nat) (hm : t ≤ m) : accD n c m = accD n c t := by
  obtain ⟨e, rfl⟩ : ∃ e, m = t + e := ⟨m - t, by omega⟩
  clear hm
  have hc : ∀ e, cnt c (t + e) ≤ 1 := by
    intro e
    induction e with
    | zero => exact h
    | succ e ih => show (cnt c (t + e) + 1) / 2 ≤ 1; omega
  induction e with
  | zero => rfl
  | succ e ih =>
    rw [show t + (e + 1) = (t + e) + 1 by omega, accD, ih]
    have h2 := cnt_div n c (t + e) hn
    have h4 := hc e
    have h3 : n / 2 ^ (t + e) = 0 := Nat.lt_one_iff.1 (Nat.lt_of_lt_of_le h2 h4)
    rw [h3, if_neg, List.append_nil]
    rw [show bes 0 = 1 from rfl]
    omega

theorem accD_left (m n c : Nat) (hn : n < 2 ^ m) (t : Nat) (ht : t ≤ m) : accD n (2 ^ m + c) t = accD n (2 ^ m) t := by
  induction t with
  | zero => rfl
  | succ t ih =>
    rw [accD, accD, ih (by omega)]
    have hd : n / 2 ^ t < 2 * 2 ^ (m - t - 1) := by
      have := cnt_div n (2 ^ m) t hn
      rw [cnt_pow m t (by omega)] at this
      have e : m - t = (m - t - 1) + 1 := by omega
      rw [e] at this
      rw [← Nat.pow_succ']
      exact this
    have hb := bes_lt_even hd
    have hp : 2 ^ (m - t) = 2 * 2 ^ (m - t - 1) := by rw [← Nat.pow_succ']; congr 1; omega
    have h1 : cnt (2 ^ m + c) t = 2 ^ (m - t) + cnt c t := cnt_add_pow m t c (by omega)
    have h2 : cnt (2 ^ m) t = 2 ^ (m - t) := cnt_pow m t (by omega)
    rw [if_pos (show bes (n / 2 ^ t) < cnt (2 ^ m + c) t by rw [h1]; omega), if_pos (show bes (n / 2 ^ t) < cnt (2 ^ m) t by rw [h2]; omega)]

theorem accD_right (m n c : Nat) (t : Nat) (ht : t ≤ m) : accD (2 ^ m + n) (2 ^ m + c) t = accD n c t := by
  induction t with
  | zero => rfl
  | succ t ih =>
    rw [accD, accD, ih (by omega)]
    have hd : (2 ^ m + n) / 2 ^ t = 2 * 2 ^ (m - t - 1) + n / 2 ^ t := by
      have h1 : 2 ^ m = 2 ^ t * (2 * 2 ^ (m - t - 1)) := by
        rw [← Nat.pow_succ', ← Nat.pow_add]
        congr 1; omega
      rw [h1, Nat.mul_add_div (Nat.pow_pos (by omega))]
    have hp : 2 ^ (m - t) = 2 * 2 ^ (m - t - 1) := by rw [← Nat.pow_succ']; congr 1; omega
    have h1 : cnt (2 ^ m + c) t = 2 ^ (m - t) + cnt c t := cnt_add_pow m t c (by omega)
    rw [hd, h1, hp, bes_add]
    by_cases h : bes (n / 2 ^ t) < cnt c t
    · rw [if_pos (show 2 * 2 ^ (m - t - 1) + bes (n / 2 ^ t) < 2 * 2 ^ (m - t - 1) + cnt c t by omega), if_pos h]
      rw [show (2 * 2 ^ (m - t - 1) + n / 2 ^ t) % 2 = n / 2 ^ t % 2 by omega]
    · rw [if_neg (show ¬ 2 * 2 ^ (m - t - 1) + bes (n / 2 ^ t) < 2 * 2 ^ (m - t - 1) + cnt c t by omega), if_neg h]

theorem accD_dirs (m n c : Nat) (hn : n < c) (hc : c ≤ 2 ^ m) : (accD n c m).reverse = dirsM m n c := by
  induction m generalizing n c with
  | zero => rfl
  | succ m ih =>
    have hp : 2 ^ (m + 1) = 2 ^ m * 2 := Nat.pow_succ _ _
    rw [dirsM]
    by_cases h : c ≤ 2 ^ m
    · rw [if_pos h, ← ih n c hn h, accD_stop n c m hn (cnt_small m c h) (m + 1) (by omega)]
    · rw [if_neg h, accD, cnt_two m c (by omega) hc]
      obtain ⟨e, rfl⟩ : ∃ e, c = 2 ^ m + e := ⟨c - 2 ^ m, by omega⟩
      by_cases hk : n < 2 ^ m
      · rw [if_pos hk, accD_left m n e hk m (Nat.le_refl _), Nat.div_eq_of_lt hk, ← ih n (2 ^ m) hk (Nat.le_refl _)]
        simp [bes]
      · rw [if_neg hk]
        obtain ⟨f, rfl⟩ : ∃ f, n = 2 ^ m + f := ⟨n - 2 ^ m, by omega⟩
        have hpos : 0 < 2 ^ m := Nat.pow_pos (by omega)
        have h0 : (2 ^ m + f) / 2 ^ m = 1 := by apply Nat.div_eq_of_lt_le <;> omega
        rw [accD_right m f e m (Nat.le_refl _), h0, Nat.add_sub_cancel_left, Nat.add_sub_cancel_left, ← ih f e (by omega) (by omega)]
        simp [bes]

theorem accD_end (t m n c : Nat) (hn : n < c) (hc : c ≤ 2 ^ m) (h1 : cnt c t ≤ 1) : (accD n c t).reverse = dirsM m n c := by
  rw [← accD_dirs m n c hn hc]
  rcases Nat.le_total t m with h | h
  · rw [accD_stop n c t hn h1 m h]
  · rw [← accD_stop n c m hn (cnt_small m c hc) t h]

theorem zip_snoc {α β : Type} (D : List β) (hs : List α) (b : β) (h : D.length < hs.length) : hs.zip (D ++ [b]) = hs.zip D ++ [(hs[D.length], b)] := by
  induction D generalizing hs with
  | nil =>
    rcases hs with _ | ⟨x, hs⟩
    · simp at h
    · simp
  | cons d D ih =>
    rcases hs with _ | ⟨x, hs⟩
    · simp at h
    · simp at h
      simp [ih hs h]

/-- The bottom-up lead is a fold over what stands beside. -/
theorem accL_fold (n c : Nat) (a : Bs) (hs : List Bs) (m : Nat) (hn : n < c) (hc : c ≤ 2 ^ m) (hl : hs.length = sizeM m n c) (t : Nat) : (accL knotB [] n c a hs t).1 = (hs.zip (accD n c t)).foldl stepW a := by
  induction t with
  | zero => simp [accL, accD]
  | succ t ih =>
    rw [accL, accD]
    unfold stepL
    by_cases h : bes (n / 2 ^ t) < cnt c t
    · have hlt := accS_lt t m n c hn hc h
      rw [if_pos h, if_pos h, accL_rest, ih]
      have hk : accS n c t < hs.length := by omega
      have e2 := zip_snoc (accD n c t) hs ((n / 2 ^ t) % 2 == 1) (by rw [accD_length]; exact hk)
      simp only [accD_length] at e2
      rw [e2, List.foldl_append, List.drop_eq_getElem_cons hk]
      simp only [List.foldl_cons, List.foldl_nil, List.headD_cons, stepW]
      by_cases hpar : (n / 2 ^ t) % 2 = 1
      · rw [if_pos hpar, if_pos (by simp [hpar])]
      · rw [if_neg hpar, if_neg (by simp [hpar])]
    · rw [if_neg h, if_neg h, List.append_nil, ih]
end Go.Proofs.Ytbabjepblakboaa

/- Merkle: nodes of trees: the walks. -/
namespace Go.Proofs.Ytbabjepblakboaa
set_option linter.unusedVariables false
set_option linter.unusedSimpArgs false
open Go.RowKit Go.Lib

theorem strC (s : Bs) : strCells ⟨s.toArray⟩ = bvs s := rfl

set_option maxRecDepth 100000 in
set_option maxHeartbeats 1000000 in
theorem mtext_any (w : World) (v : Value) (s : Bs) (L : List Bs) (hp : Pts w v L) (hs : s.length ≤ 200) (hL : L.length ≤ 1000) (hm : L.flatten.length ≤ 1000000) :
    Calls Try.prog 156 #[.string ⟨s.toArray⟩, v] w fun e w' => ∃ v', e = .returned v' ∧ Rd w' 1 v' (textB s L.flatten).length (bvs (textB s L.flatten)) ∧ Below w.heap.size w w' ∧ ∀ k, v'.ownBlock = some k → w.heap.size ≤ k := by
  obtain ⟨i0, hi, hi0, hi1, hi2⟩ := info_parts infoU8
  have hT : (⟨s.toArray⟩ : ByteArray).size = s.length := by simp [ByteArray.size]
  obtain ⟨a0, c0, rfl⟩ := hp.slice
  obtain ⟨N, hN⟩ : ∃ N, N = L.length := ⟨_, rfl⟩
  obtain ⟨z, hz⟩ : ∃ z, z = s.length := ⟨_, rfl⟩
  have htx : ∀ k, textB s (L.take k).flatten = UInt8.ofNat z :: (s ++ (L.take k).flatten) := fun k => by
    unfold textB
    rw [List.take_of_length_le (by omega), hz]
  have htx' : textB s L.flatten = UInt8.ofNat z :: (s ++ L.flatten) := by
    unfold textB
    rw [List.take_of_length_le (by omega), hz]
  have hlb : Value.int .u8 (z : Int) = bv (UInt8.ofNat z) := by
    rw [bv_ofNat]
    congr 1
    omega
  have hz' : (z : Int) ≤ 200 := by omega
  obtain ⟨TT, hTT⟩ : ∃ t, t = (⟨s.toArray⟩ : ByteArray) := ⟨_, rfl⟩
  have hcells : strCells TT = bvs s := by rw [hTT]; exact strC s
  rw [← hTT] at hT ⊢
  have hsz : TT.size = z := by rw [hT, hz]
  rw [← hN] at hp hL ⊢
  have HP := Lib.hid hp
  have HX := Lib.hid (And.intro htx htx')
  have HB := Lib.hid hlb
  have HC := Lib.hid hcells
  have HN := Lib.hid (And.intro hN (And.intro hL (And.intro hm (And.intro hz hs))))
  clear hp htx htx' hlb hcells hN hL hm hz hs hTT hT
  go_enter Try.func156, Try.ntmps156
  go_wp2_with (at_builtin; apply Stop.mk)
  refine Stop.go ?_
  rw [HB.out]
  obtain ⟨wa, hwa, hza, hba, hoa⟩ : ∃ wa, wa = w.alloc (.cells #[bv (UInt8.ofNat z)] 5) ∧ wa.heap.size = w.heap.size + 1 ∧ Below w.heap.size w wa ∧ wa.ownsRow w.heap.size 5 1 (.slice (some ⟨w.heap.size, 0, none⟩) 1 1) 1 (bvs [UInt8.ofNat z]) :=
    ⟨_, rfl, Array.size_push _, (Below.refl _ w).alloc (Nat.le_refl _) _, own_one w _ _ _ (Nat.le_refl _)⟩
  change wpList _ _ _ _ _ (w.alloc (.cells #[bv (UInt8.ofNat z)] 5))
  rw [← hwa]
  clear hwa
  refine wpList_append_str _ rfl (.tmp 11) (.tmp 12) 42 9 rfl w.heap.size 5 i0 Try.underlying42 Try.underlying9 hi hi0 hi1 hi2 (.slice (some ⟨w.heap.size, 0, none⟩) 1 1) 1 _ rfl hoa TT rfl (by omega) (by omega) ?_
  intro v1 w1 hown hgr
  have hb1 : Below w.heap.size w w1 := hba.grown hgr (by omega) (by simp [Value.ownBlock])
  rw [HC.out] at hown
  obtain ⟨K, hK⟩ : ∃ K, K = 1 + TT.size := ⟨_, rfl⟩
  have hown2 : w1.ownsRow w.heap.size 5 1 v1 K (bvs (UInt8.ofNat z :: s)) := by rw [hK]; exact hown
  obtain ⟨a1, c1, rfl⟩ := own_slice hown2
  have HO1 := Lib.hid hown2
  have HB1 := Lib.hid hb1
  have HK : Hid (K = 1 + z ∧ K ≤ 201) := Lib.hid (by omega)
  clear hown hown2 hgr hb1 hoa hba hza hK
  go_wp2
  go_loopw [5, 16] (fun v5 v16 wr => ∃ k n : Nat, k ≤ N ∧ n = K + (L.take k).flatten.length ∧ v16 = .int .i64 (k : Int) ∧ wr.ownsRow w.heap.size 5 1 v5 n (bvs (UInt8.ofNat z :: (s ++ (L.take k).flatten))) ∧ Below w.heap.size w wr)
    (fun _ v _ => N - (intOf v).toNat)
  case atStart => exact ⟨0, K, Nat.zero_le _, by simp, rfl, by simpa using HO1.out, HB1.out⟩
  case round =>
    obtain ⟨k, n, hk, hn, rfl, ho, hb⟩ := hrel
    obtain ⟨a5, c5, rfl⟩ := own_slice ho
    have Ho' := Lib.hid ho
    have Hb := Lib.hid hb
    have Hn := Lib.hid hn
    clear ho hb hn
    by_cases hlt : k < N
    · obtain ⟨x, hx⟩ : ∃ x, L[k]? = some x := ⟨_, List.getElem?_eq_getElem (by rw [← HN.out.1]; exact hlt)⟩
      obtain ⟨vs, hr, hel⟩ := Pts.fresh HP.out Hb.out
      obtain ⟨u, hu, hru⟩ := hel k x hx
      rw [← HN.out.1] at hr
      rcases hr.2 with ⟨_, h0⟩ | ⟨ad, c, he, _, _, hcell⟩
      · omega
      simp only [Value.slice.injEq, true_and] at he
      obtain ⟨rfl, rfl⟩ := he
      obtain ⟨ax, cx, rfl⟩ := hru.slice
      obtain ⟨q, hq⟩ : ∃ q, q = x.length := ⟨_, rfl⟩
      rw [← hq] at hru hu
      have fk : wr.cell? (ad.add k) = some (.slice ax q cx) := hcell k _ hu
      have ik : (k : Int) < (N : Int) := by omega
      have iN : (N : Int) ≤ 1000 := by have := HN.out.2.1; omega
      have e1 : (L.take (k + 1)).flatten = (L.take k).flatten ++ x := by rw [List.take_add_one, hx]; simp
      have e2 : (L.take (k + 1)).flatten.length ≤ L.flatten.length := flat_le L (k + 1)
      have HE := Lib.hid (And.intro e1 (And.intro e2 hq))
      have HR := Lib.hid hru
      clear hx hr hel hu hru hcell e1 e2 hlt hq
      go_wp2_with (at_builtin; apply Stop.mk)
      refine Stop.go ?_
      have hlq : n + q ≤ 1000201 := by
        have h1 := HE.out.2.1
        rw [HE.out.1, List.length_append] at h1
        have := HN.out.2.2.1
        have := HK.out.2
        have := Hn.out
        have := HE.out.2.2
        omega
      refine wpList_append_rd _ rfl (.tmp 20) (.tmp 21) 42 rfl w.heap.size 5 i0 (.int .u8 0) 1 1 Try.underlying42 hi hi0 hi1 hi2 rfl (by decide) _ n _ rfl Ho'.out _ q (bvs x) rfl HR.out (bvs_one _) (by unfold maxLen; omega) (by omega) Hb.out.size ?_
      intro v6 w6 hown6 hgr6 _ _
      have B6 : Hid (Below w.heap.size w w6) := Hb.out.grown hgr6 Hb.out.size (fun j hj => (Ho'.out.lt j hj).1)
      have O6 : Hid (w6.ownsRow w.heap.size 5 1 v6 (n + q) (bvs (UInt8.ofNat z :: (s ++ (L.take (k + 1)).flatten)))) := Lib.hid (by
        rw [HE.out.1]
        rw [← bvs_append, List.cons_append, List.append_assoc] at hown6
        exact hown6)
      have N6 : Hid (n + q = K + (L.take (k + 1)).flatten.length) := Lib.hid (by rw [HE.out.1, List.length_append, Hn.out, HE.out.2.2]; omega)
      clear hown6 hgr6 hlq
      go_wp2
      go_roundw
      case rel => exact ⟨k + 1, n + q, by omega, N6.out, by go_num, O6.out, B6.out⟩
      case measure => simp only [intOf]; omega
    · have ik : ¬ ((k : Int) < (N : Int)) := by omega
      have HF : Hid (Rd wr 1 (.slice a5 n c5) (textB s L.flatten).length (bvs (textB s L.flatten))) := Lib.hid (by
        have h1 := Rd.of_own Ho'.out
        rw [List.take_of_length_le (by have := HN.out.1; omega)] at h1
        rw [HX.out.2]
        have h2 : (UInt8.ofNat z :: (s ++ L.flatten)).length = n := by have := h1.1; simpa using this
        rw [h2]
        exact h1)
      clear hlt
      go_wp2
      go_ret
      exact ⟨_, rfl, HF.out, Hb.out, fun j hj => (Ho'.out.lt j hj).1⟩

end Go.Proofs.Ytbabjepblakboaa

/- Merkle: nodes of trees: what they hold; leaves, knots, tops: the walks. -/
namespace Go.Proofs.Ytbabjepblakboaa
set_option linter.unusedVariables false
set_option linter.unusedSimpArgs false
open Go.RowKit Go.Lib

theorem of32 {h : Bs} (hl : h.length = 32) : ∃ a0 a1 a2 a3 a4 a5 a6 a7 a8 a9 a10 a11 a12 a13 a14 a15 a16 a17 a18 a19 a20 a21 a22 a23 a24 a25 a26 a27 a28 a29 a30 a31 : UInt8, h = [a0, a1, a2, a3, a4, a5, a6, a7, a8, a9, a10, a11, a12, a13, a14, a15, a16, a17, a18, a19, a20, a21, a22, a23, a24, a25, a26, a27, a28, a29, a30, a31] := by
  match h, hl with
  | [a0, a1, a2, a3, a4, a5, a6, a7, a8, a9, a10, a11, a12, a13, a14, a15, a16, a17, a18, a19, a20, a21, a22, a23, a24, a25, a26, a27, a28, a29, a30, a31], _ => exact ⟨a0, a1, a2, a3, a4, a5, a6, a7, a8, a9, a10, a11, a12, a13, a14, a15, a16, a17, a18, a19, a20, a21, a22, a23, a24, a25, a26, a27, a28, a29, a30, a31, rfl⟩

section
set_option maxRecDepth 100000
theorem build_node3 (w : World) (h : Bs) (hl : h.length = 32) (ab ak : Option Addr) (nb cb nk ck : Nat) :
    (Instr.build 166 #[(0, .agg (bvs h).toArray), (1, .slice ab nb cb), (2, .slice ak nk ck)]).run Try.prog w = .ok (.agg (bvs h ++ [Value.slice ab nb cb, Value.slice ak nk ck]).toArray) w := by
  obtain ⟨a0, a1, a2, a3, a4, a5, a6, a7, a8, a9, a10, a11, a12, a13, a14, a15, a16, a17, a18, a19, a20, a21, a22, a23, a24, a25, a26, a27, a28, a29, a30, a31, rfl⟩ := of32 hl
  kernel_rfl

theorem build_node2 (w : World) (h : Bs) (hl : h.length = 32) (ab : Option Addr) (nb cb : Nat) :
    (Instr.build 166 #[(0, .agg (bvs h).toArray), (1, .slice ab nb cb)]).run Try.prog w = .ok (.agg (bvs h ++ [Value.slice ab nb cb, Value.slice none 0 0]).toArray) w := by
  obtain ⟨a0, a1, a2, a3, a4, a5, a6, a7, a8, a9, a10, a11, a12, a13, a14, a15, a16, a17, a18, a19, a20, a21, a22, a23, a24, a25, a26, a27, a28, a29, a30, a31, rfl⟩ := of32 hl
  kernel_rfl

theorem build_node1 (w : World) (h : Bs) (hl : h.length = 32) :
    (Instr.build 166 #[(0, .agg (bvs h).toArray)]).run Try.prog w = .ok (.agg (bvs h ++ [Value.slice none 0 0, Value.slice none 0 0]).toArray) w := by
  obtain ⟨a0, a1, a2, a3, a4, a5, a6, a7, a8, a9, a10, a11, a12, a13, a14, a15, a16, a17, a18, a19, a20, a21, a22, a23, a24, a25, a26, a27, a28, a29, a30, a31, rfl⟩ := of32 hl
  kernel_rfl
end

/-- A struct built of parts. -/
theorem wpList_buildP {P : Program} {ops : Array Oper} {rest : List Oper} {o : Oper} {a : Act} {w : World} {Q : Exit → Act → World → Prop} (hgd : o.guard = none) (t : TypeId) (parts : Array (Nat × Operand)) (ho : o.op = .build t parts) (ps : Array (Nat × Value)) (v : Value)
    (hp : (parts.map fun (i, x) => (i, a.eval x)) = ps) (hr : (Instr.build t ps).run P w = .ok v w)
    (h : wpList P ops Q rest (a.put o.dst v) w) : wpList P ops Q (o :: rest) a w := by
  subst hp
  refine wpList_plain hgd fun _ hK => ?_
  unfold Oper.wp execOp
  simp only [ho, hr, Sem.run_bind, Sem.run_pure, Result.andThen_ok]
  exact hK _ _ h

/-- Blocks of children. -/
def KidsAt (w : World) (v : Value) (kids : List Nat) : Prop :=
  (kids = [] ∧ v = .slice none 0 0) ∨ ∃ g, v = .slice (some ⟨g, 0, none⟩) kids.length kids.length ∧ CB w 163 g (kids.map fun k => .pointer (some ⟨k, 0, none⟩))

/-- A node at a block: its hash, its text, its children; its blocks are such as F says. -/
def NodeAt (w : World) (F : Nat → Prop) (g : Nat) (h txt : Bs) (kids : List Nat) : Prop :=
  h.length = 32 ∧ F g ∧ ∃ vb vk, CB w 166 g (bvs h ++ [vb, vk]) ∧ Rd w 1 vb txt.length (bvs txt) ∧ KidsAt w vk kids ∧ (∀ k, vb.ownBlock = some k → F k) ∧ (∀ k, vk.ownBlock = some k → F k)

theorem KidsAt.fresh {w w' : World} {v : Value} {kids : List Nat} (h : KidsAt w v kids) (hb : Below w.heap.size w w') : KidsAt w' v kids := by
  rcases h with h | ⟨g, h1, h2⟩
  · exact .inl h
  · exact .inr ⟨g, h1, h2.fresh hb⟩

theorem NodeAt.fresh {w w' : World} {F : Nat → Prop} {g : Nat} {h txt : Bs} {kids : List Nat} (hn : NodeAt w F g h txt kids) (hb : Below w.heap.size w w') : NodeAt w' F g h txt kids := by
  obtain ⟨hl, hF, vb, vk, h1, h2, h3, h4, h5⟩ := hn
  exact ⟨hl, hF, vb, vk, h1.fresh hb, h2.fresh hb, h3.fresh hb, h4, h5⟩

theorem NodeAt.mono {w : World} {F F' : Nat → Prop} {g : Nat} {h txt : Bs} {kids : List Nat} (hn : NodeAt w F g h txt kids) (hf : ∀ k, F k → F' k) : NodeAt w F' g h txt kids := by
  obtain ⟨hl, hF, vb, vk, h1, h2, h3, h4, h5⟩ := hn
  exact ⟨hl, hf _ hF, vb, vk, h1, h2, h3, fun k hk => hf _ (h4 k hk), fun k hk => hf _ (h5 k hk)⟩

/-- Its blocks stand below the heap's end. -/
theorem NodeAt.lt {w : World} {F : Nat → Prop} {g : Nat} {h txt : Bs} {kids : List Nat} (hn : NodeAt w F g h txt kids) (ht : 0 < txt.length) : NodeAt w (fun k => F k ∧ k < w.heap.size) g h txt kids := by
  obtain ⟨hl, hF, vb, vk, h1, h2, h3, h4, h5⟩ := hn
  refine ⟨hl, ⟨hF, h1.lt⟩, vb, vk, h1, h2, h3, fun k hk => ⟨h4 k hk, ?_⟩, fun k hk => ⟨h5 k hk, ?_⟩⟩
  · rcases h2.2 with ⟨rfl, h0⟩ | ⟨ad, c, rfl, _, _, hc⟩
    · omega
    · obtain ⟨u, hu⟩ : ∃ u, (bvs txt)[0]? = some u := ⟨_, List.getElem?_eq_getElem (show 0 < (bvs txt).length by rw [bvs_length]; exact ht)⟩
      have := block_lt_of_cell (hc 0 u hu)
      rw [Addr.add_block] at this
      simp [Value.ownBlock] at hk
      omega
  · rcases h3 with ⟨_, rfl⟩ | ⟨q, rfl, h6⟩
    · simp [Value.ownBlock] at hk
    · simp [Value.ownBlock] at hk
      have := h6.lt
      omega

/-- Where only a block turns that is none of its own, it stays. -/
theorem NodeAt.kept {w w' : World} {F : Nat → Prop} {r : Option Nat} {g : Nat} {h txt : Bs} {kids : List Nat} (hn : NodeAt w F g h txt kids) (hg : w.grownBy w' r) (hF : ∀ k, F k → k < w.heap.size ∧ r ≠ some k) : NodeAt w' F g h txt kids := by
  obtain ⟨hl, hF0, vb, vk, h1, h2, h3, h4, h5⟩ := hn
  have hk : ∀ k, F k → w'.heap[k]? = w.heap[k]? := fun k hk => hg.block k (hF k hk).1 (fun e => (hF k hk).2 e.symm)
  refine ⟨hl, hF0, vb, vk, ?_, h2.kept fun k _ hv => hk k (h4 k hv), ?_, h4, h5⟩
  · unfold CB
    rw [hk g hF0]
    exact h1
  · rcases h3 with h3 | ⟨q, rfl, h6⟩
    · exact .inl h3
    · refine .inr ⟨q, rfl, ?_⟩
      unfold CB
      rw [hk q (h5 q rfl)]
      exact h6

/-- The first cells of a node: its hash. -/
def HeadAt (w : World) (g : Nat) (h : Bs) : Prop := h.length = 32 ∧ ∃ rest, CB w 166 g (bvs h ++ rest)

theorem HeadAt.fresh {w w' : World} {g : Nat} {h : Bs} (hn : HeadAt w g h) (hb : Below w.heap.size w w') : HeadAt w' g h := by
  obtain ⟨hl, r, h1⟩ := hn
  exact ⟨hl, r, h1.fresh hb⟩

theorem NodeAt.head {w : World} {F : Nat → Prop} {g : Nat} {h txt : Bs} {kids : List Nat} (hn : NodeAt w F g h txt kids) : HeadAt w g h := by
  obtain ⟨hl, _, vb, vk, h1, _⟩ := hn
  exact ⟨hl, _, h1⟩

theorem HeadAt.cells {w : World} {g : Nat} {h : Bs} (hn : HeadAt w g h) : ∀ j u, (bvs h)[j]? = some u → w.cell? ((⟨g, 0, none⟩ : Addr).add j) = some u := by
  obtain ⟨hl, r, h1⟩ := hn
  intro j u hj
  rw [add_at, Nat.zero_add]
  exact h1.cell j u (by rw [List.getElem?_append_left (List.getElem?_eq_some_iff.1 hj).1]; exact hj)

theorem HeadAt.rd {w : World} {g : Nat} {h : Bs} (hn : HeadAt w g h) : Rd w 1 (.slice (some ⟨g, 0, none⟩) 32 32) h.length (bvs h) :=
  ⟨by simp, .inr ⟨_, 32, by rw [hn.1], by rw [hn.1]; exact Nat.le_refl _, by decide, hn.cells⟩⟩

theorem infoNode : (Try.prog.info? 166).map (·.size) = some 34 := by kernel_rfl

set_option maxRecDepth 100000 in
set_option maxHeartbeats 2000000 in
theorem leafNode_any (w : World) (x : Bs) (hx : x.length = 32) :
    Calls Try.prog 143 #[.agg (bvs x).toArray] w fun e w' => ∃ g, e = .returned (.pointer (some ⟨g, 0, none⟩)) ∧ NodeAt w' (fun k => w.heap.size ≤ k) g (leafB x) (leafT x) [] ∧ Below w.heap.size w w' := by
  have HX := Lib.hid hx
  have CT := fun w0 v0 h0 => mtext_any w0 v0 [108, 101, 97, 102] [x] h0 (by simp) (by simp) (by simp; omega)
  obtain ⟨n, hn⟩ : ∃ n, n = (textB [108, 101, 97, 102] ([x] : List Bs).flatten).length := ⟨_, rfl⟩
  obtain ⟨T, hT⟩ : ∃ T, T = textB [108, 101, 97, 102] ([x] : List Bs).flatten := ⟨_, rfl⟩
  have hTT : Hid (T = leafT x) := Lib.hid (by rw [hT]; simp [leafT])
  rw [← hn, ← hT] at CT
  have hnl : Hid (n = T.length) := Lib.hid (by rw [hn, hT])
  replace CT := Lib.hid CT
  clear hx hn hT
  go_enter Try.func143, Try.ntmps143
  go_wp2_with fail
  obtain ⟨w1, h1, k1, b1, s1⟩ := alloc_cb w 24 (bvs x)
  change Code.wp _ _ _ _ (w.alloc (.cells (bvs x).toArray 24))
  rw [← h1]
  have SS : Hid (CB w1.drew 24 w.heap.size (bvs x)) := Lib.hid k1
  have BB : Hid (Below w.heap.size w w1.drew) := Lib.hid b1.drew
  clear h1 k1 b1 s1
  refine ord_share4 (F := fun (wz : World) (G : Nat) (ax : Option Addr) (cx : Nat) => CB wz 24 w.heap.size (bvs x) ∧ Rd wz 1 (.slice ax n cx) n (bvs T) ∧ (∀ k, (Value.slice ax n cx).ownBlock = some k → w.heap.size ≤ k) ∧ Below w.heap.size w wz) ?pshare ?tree ?rest
  case tree =>
    intro HREST
    have HREST := Lib.hid HREST
    refine pl_start 8 rfl (fun w' => CB w' 24 w.heap.size (bvs x)) (by kernel_rfl) ?_
    obtain ⟨w2, hw2⟩ : ∃ w2, w2 = w1.drew := ⟨_, rfl⟩
    rw [← hw2] at SS BB ⊢
    clear hw2
    refine pl_take (i := 0) 3 rfl rfl rfl (by kernel_rfl) (by kernel_rfl) (by kernel_rfl) (by simp [Act.put]) SS.out ?_
    apply Exists.intro
    refine And.intro (fun w' hS' => ?_) ?_
    · refine wpList_load_agg rfl 24 (.tmp 1) rfl (⟨w.heap.size, 0, none⟩) rfl (bvs x) _ ((At.block hS').load) Try.underlying24 rfl (by rw [bvs_length, HX.out]; exact infoHash) ?_
      go_wp2
      exact ⟨trivial, rfl⟩
    refine pl_take (i := 2) 5 rfl rfl rfl (by kernel_rfl) (by kernel_rfl) (by kernel_rfl) (by simp [Act.put]) SS.out ?_
    apply Exists.intro
    refine And.intro (fun w' hS' => ?_) ?_
    · go_wp2
      exact ⟨trivial, rfl⟩
    refine ord_two (i := 1) (j := 3) rfl rfl (by kernel_rfl) ?_ ?_
    · skip
      go_wp2_with fail
      refine (leaf_any w2 x HX.out).mono ?_
      rintro e u1 ⟨rfl, b⟩
      replace SS := Lib.hid (SS.out.fresh b)
      replace BB := Lib.hid (BB.out.tr b)
      clear b
      go_wp2
      refine And.intro SS.out ?_
      refine pl_heavy (i := 3) rfl (by kernel_rfl) ?_
      go_wp2
      have SSo := SS
      obtain ⟨u2, h, k, b, s⟩ := alloc_cb u1 42 [.slice (some ⟨w.heap.size, 0, none⟩) 32 32]
      have q := SS.out.fresh b
      refine And.intro (by rw [h] at q; exact q) ?_
      change wpAnyH _ _ _ _ _ _ _ _ (u1.alloc (.cells [.slice (some ⟨w.heap.size, 0, none⟩) 32 32].toArray 42))
      rw [← h]
      have LX : w.heap.size ≤ u1.heap.size := (BB.out).size
      replace SS := Lib.hid (SS.out.fresh b)
      replace BB := Lib.hid (BB.out.tr b)
      obtain ⟨GA, hG⟩ : ∃ G, G = u1.heap.size := ⟨_, rfl⟩
      rw [← hG] at k ⊢
      have LGA : Hid (w.heap.size ≤ GA) := Lib.hid (by rw [hG]; exact LX)
      have KGA := Lib.hid k
      have PP : Hid (Pts u2 (.slice (some ⟨GA, 0, none⟩) 1 1) [x]) := Lib.hid (by have q := Pts.one u1 42 (.slice (some ⟨w.heap.size, 0, none⟩) 32 32) x (CB.rd32 SSo.out HX.out); rw [← hG] at q; rw [h]; exact q)
      clear h k b s q hG LX SSo
      refine pl_heavy (i := 4) rfl (by kernel_rfl) ?_
      go_wp2_with fail
      refine (CT.out u2 _ PP.out).mono ?_
      rintro e u3 ⟨v, rfl, r, b, ov⟩
      obtain ⟨ax, cx, rfl⟩ := r.slice
      have OV : Hid (∀ k, (Value.slice ax n cx).ownBlock = some k → w.heap.size ≤ k) := Lib.hid (fun k hk => Nat.le_trans BB.out.size (ov k hk))
      replace SS := Lib.hid (SS.out.fresh b)
      replace BB := Lib.hid (BB.out.tr b)
      replace KGA := Lib.hid (KGA.out.fresh b)
      replace PP := Lib.hid (PP.out.fresh b)
      have RR : Hid (Rd u3 1 (.slice ax n cx) n (bvs T)) := Lib.hid r
      clear r ov
      clear b
      go_wp2
      refine And.intro SS.out ?_
      exact HREST.out u3 GA ax cx ⟨SS.out, RR.out, OV.out, BB.out⟩
    · skip
      go_wp2
      have SSo := SS
      obtain ⟨u4, h, k, b, s⟩ := alloc_cb w2 42 [.slice (some ⟨w.heap.size, 0, none⟩) 32 32]
      have q := SS.out.fresh b
      refine And.intro (by rw [h] at q; exact q) ?_
      change wpAnyH _ _ _ _ _ _ _ _ (w2.alloc (.cells [.slice (some ⟨w.heap.size, 0, none⟩) 32 32].toArray 42))
      rw [← h]
      have LX : w.heap.size ≤ w2.heap.size := (BB.out).size
      replace SS := Lib.hid (SS.out.fresh b)
      replace BB := Lib.hid (BB.out.tr b)
      obtain ⟨GA, hG⟩ : ∃ G, G = w2.heap.size := ⟨_, rfl⟩
      rw [← hG] at k ⊢
      have LGA : Hid (w.heap.size ≤ GA) := Lib.hid (by rw [hG]; exact LX)
      have KGA := Lib.hid k
      have PP : Hid (Pts u4 (.slice (some ⟨GA, 0, none⟩) 1 1) [x]) := Lib.hid (by have q := Pts.one w2 42 (.slice (some ⟨w.heap.size, 0, none⟩) 32 32) x (CB.rd32 SSo.out HX.out); rw [← hG] at q; rw [h]; exact q)
      clear h k b s q hG LX SSo
      refine pl_heavy (i := 1) rfl (by kernel_rfl) ?_
      go_wp2_with fail
      refine (leaf_any u4 x HX.out).mono ?_
      rintro e u5 ⟨rfl, b⟩
      replace SS := Lib.hid (SS.out.fresh b)
      replace BB := Lib.hid (BB.out.tr b)
      replace KGA := Lib.hid (KGA.out.fresh b)
      replace PP := Lib.hid (PP.out.fresh b)
      clear b
      go_wp2
      refine And.intro SS.out ?_
      refine pl_heavy (i := 4) rfl (by kernel_rfl) ?_
      go_wp2_with fail
      refine (CT.out u5 _ PP.out).mono ?_
      rintro e u6 ⟨v, rfl, r, b, ov⟩
      obtain ⟨ax, cx, rfl⟩ := r.slice
      have OV : Hid (∀ k, (Value.slice ax n cx).ownBlock = some k → w.heap.size ≤ k) := Lib.hid (fun k hk => Nat.le_trans BB.out.size (ov k hk))
      replace SS := Lib.hid (SS.out.fresh b)
      replace BB := Lib.hid (BB.out.tr b)
      replace KGA := Lib.hid (KGA.out.fresh b)
      replace PP := Lib.hid (PP.out.fresh b)
      have RR : Hid (Rd u6 1 (.slice ax n cx) n (bvs T)) := Lib.hid r
      clear r ov
      clear b
      go_wp2
      refine And.intro SS.out ?_
      exact HREST.out u6 GA ax cx ⟨SS.out, RR.out, OV.out, BB.out⟩
  case rest =>
    rintro wz G ax cx ⟨SZ, RZ, OZ, BZ⟩
    have OZ' := Lib.hid OZ
    clear OZ
    have SZ' := Lib.hid SZ
    have RZ' := Lib.hid RZ
    have BZ' := Lib.hid BZ
    clear SZ RZ BZ SS BB
    refine pl_heavy (i := 5) rfl (by kernel_rfl) ?_
    refine wpList_buildP rfl _ _ rfl #[(0, .agg (bvs (leafB x)).toArray), (1, .slice ax n cx)] _ (by kernel_rfl) (build_node2 wz (leafB x) (leafB_length x) ax n cx) ?_
    go_wp2
    refine And.intro SZ'.out ?_
    refine pl_heavy (i := 6) rfl (by kernel_rfl) ?_
    go_wp2
    obtain ⟨wn, h, k, b, s⟩ := alloc_cb wz 166 (bvs (leafB x) ++ [Value.slice ax n cx, Value.slice none 0 0])
    have q := SZ'.out.fresh b
    refine And.intro (by rw [h] at q; exact q) ?_
    change wpAnyH _ _ _ _ _ _ _ _ (wz.alloc (.cells (bvs (leafB x) ++ [Value.slice ax n cx, Value.slice none 0 0]).toArray 166))
    rw [← h]
    obtain ⟨g, hg⟩ : ∃ g, g = wz.heap.size := ⟨_, rfl⟩
    rw [← hg] at k ⊢
    have NN : Hid (NodeAt wn (fun k => w.heap.size ≤ k) g (leafB x) (leafT x) []) := Lib.hid ⟨leafB_length x, by rw [hg]; exact BZ'.out.size, _, _, k, by rw [← hTT.out, ← hnl.out]; exact RZ'.out.fresh b, .inl ⟨rfl, rfl⟩, OZ'.out, fun k hk => by simp [Value.ownBlock] at hk⟩
    have SN := Lib.hid q
    have BN := Lib.hid (BZ'.out.tr b)
    clear h k b s q hg
    refine pl_heavy (i := 7) rfl (by kernel_rfl) ?_
    go_wp2
    refine And.intro SN.out ?_
    refine pl_done (by kernel_rfl) ?_
    go_wp2
    go_ret
    exact ⟨g, rfl, NN.out, BN.out⟩

end Go.Proofs.Ytbabjepblakboaa

/- Merkle: nodes of trees: knots: the walk. -/
namespace Go.Proofs.Ytbabjepblakboaa
set_option linter.unusedVariables false
set_option linter.unusedSimpArgs false
open Go.RowKit Go.Lib

/-- Two heads. -/
def Heads (w : World) (ga : Nat) (ha : Bs) (gb : Nat) (hb : Bs) : Prop := HeadAt w ga ha ∧ HeadAt w gb hb
theorem Heads.fresh {w w' : World} {ga gb : Nat} {ha hb : Bs} (h : Heads w ga ha gb hb) (b : Below w.heap.size w w') : Heads w' ga ha gb hb := ⟨h.1.fresh b, h.2.fresh b⟩

set_option maxRecDepth 100000 in
set_option maxHeartbeats 8000000 in
theorem knotNode_any (w : World) (ga gb : Nat) (ha hb : Bs) (hha : HeadAt w ga ha) (hhb : HeadAt w gb hb) :
    Calls Try.prog 144 #[.pointer (some ⟨ga, 0, none⟩), .pointer (some ⟨gb, 0, none⟩)] w fun e w' => ∃ g, e = .returned (.pointer (some ⟨g, 0, none⟩)) ∧ NodeAt w' (fun k => w.heap.size ≤ k) g (knotB ha hb) (knotT ha hb) [ga, gb] ∧ Below w.heap.size w w' := by
  have HX := Lib.hid (And.intro hha.1 hhb.1)
  have CT := fun w0 v0 h0 => mtext_any w0 v0 [107, 110, 111, 116] [ha, hb] h0 (by simp) (by simp) (by simp; have := hha.1; have := hhb.1; omega)
  obtain ⟨n, hn⟩ : ∃ n, n = (textB [107, 110, 111, 116] ([ha, hb] : List Bs).flatten).length := ⟨_, rfl⟩
  obtain ⟨T, hT⟩ : ∃ T, T = textB [107, 110, 111, 116] ([ha, hb] : List Bs).flatten := ⟨_, rfl⟩
  have hTT : Hid (T = knotT ha hb) := Lib.hid (by rw [hT]; simp [knotT])
  rw [← hn, ← hT] at CT
  have hnl : Hid (n = T.length) := Lib.hid (by rw [hn, hT])
  replace CT := Lib.hid CT
  have SS : Hid (Heads w.drew ga ha gb hb) := Lib.hid ⟨hha.fresh (Below.refl _ _).drew, hhb.fresh (Below.refl _ _).drew⟩
  clear hha hhb hn hT
  go_enter Try.func144, Try.ntmps144
  go_wp2_with fail
  have BB : Hid (Below w.heap.size w w.drew) := Lib.hid (Below.refl _ w).drew
  refine ord_share5 (F := fun (wz : World) (G : Nat) (ax : Option Addr) (cx : Nat) (G2 : Nat) => Heads wz ga ha gb hb ∧ Rd wz 1 (.slice ax n cx) n (bvs T) ∧ (∀ k, (Value.slice ax n cx).ownBlock = some k → w.heap.size ≤ k) ∧ w.heap.size ≤ G2 ∧ CB wz 163 G2 [.pointer (some ⟨ga, 0, none⟩), .pointer (some ⟨gb, 0, none⟩)] ∧ Below w.heap.size w wz) ?pshare ?tree ?rest
  case tree =>
    intro HREST
    have HREST := Lib.hid HREST
    refine pl_start 25 rfl (fun w' => Heads w' ga ha gb hb) (by kernel_rfl) ?_
    obtain ⟨w2, hw2⟩ : ∃ w2, w2 = w.drew := ⟨_, rfl⟩
    rw [← hw2] at SS BB ⊢
    clear hw2
    refine pl_take (i := 0) 5 rfl rfl rfl (by kernel_rfl) (by kernel_rfl) (by kernel_rfl) (by simp [Act.put]) SS.out ?_
    apply Exists.intro
    refine And.intro (fun w' hS' => ?_) ?_
    · go_wp2
      exact ⟨trivial, rfl⟩
    refine pl_take (i := 1) 6 rfl rfl rfl (by kernel_rfl) (by kernel_rfl) (by kernel_rfl) (by simp [Act.put]) SS.out ?_
    apply Exists.intro
    refine And.intro (fun w' hS' => ?_) ?_
    · go_wp2
      exact ⟨trivial, rfl⟩
    refine pl_take (i := 2) 7 rfl rfl rfl (by kernel_rfl) (by kernel_rfl) (by kernel_rfl) (by simp [Act.put]) SS.out ?_
    apply Exists.intro
    refine And.intro (fun w' hS' => ?_) ?_
    · go_wp2
      exact ⟨trivial, rfl⟩
    refine pl_take (i := 3) 8 rfl rfl rfl (by kernel_rfl) (by kernel_rfl) (by kernel_rfl) (by simp [Act.put]) SS.out ?_
    apply Exists.intro
    refine And.intro (fun w' hS' => ?_) ?_
    · refine wpList_load_agg rfl 24 (.tmp 7) rfl (⟨ga, 0, none⟩) rfl (bvs ha) _ (hS'.1.cells) Try.underlying24 rfl (by rw [bvs_length, HX.out.1]; exact infoHash) ?_
      go_wp2
      exact ⟨trivial, rfl⟩
    refine pl_take (i := 4) 9 rfl rfl rfl (by kernel_rfl) (by kernel_rfl) (by kernel_rfl) (by simp [Act.put]) SS.out ?_
    apply Exists.intro
    refine And.intro (fun w' hS' => ?_) ?_
    · go_wp2
      exact ⟨trivial, rfl⟩
    refine pl_take (i := 5) 10 rfl rfl rfl (by kernel_rfl) (by kernel_rfl) (by kernel_rfl) (by simp [Act.put]) SS.out ?_
    apply Exists.intro
    refine And.intro (fun w' hS' => ?_) ?_
    · go_wp2
      exact ⟨trivial, rfl⟩
    refine pl_take (i := 6) 11 rfl rfl rfl (by kernel_rfl) (by kernel_rfl) (by kernel_rfl) (by simp [Act.put]) SS.out ?_
    apply Exists.intro
    refine And.intro (fun w' hS' => ?_) ?_
    · go_wp2
      exact ⟨trivial, rfl⟩
    refine pl_take (i := 7) 12 rfl rfl rfl (by kernel_rfl) (by kernel_rfl) (by kernel_rfl) (by simp [Act.put]) SS.out ?_
    apply Exists.intro
    refine And.intro (fun w' hS' => ?_) ?_
    · refine wpList_load_agg rfl 24 (.tmp 11) rfl (⟨gb, 0, none⟩) rfl (bvs hb) _ (hS'.2.cells) Try.underlying24 rfl (by rw [bvs_length, HX.out.2]; exact infoHash) ?_
      go_wp2
      exact ⟨trivial, rfl⟩
    refine pl_take (i := 9) 14 rfl rfl rfl (by kernel_rfl) (by kernel_rfl) (by kernel_rfl) (by simp [Act.put]) SS.out ?_
    apply Exists.intro
    refine And.intro (fun w' hS' => ?_) ?_
    · go_wp2
      exact ⟨trivial, rfl⟩
    refine pl_take (i := 10) 15 rfl rfl rfl (by kernel_rfl) (by kernel_rfl) (by kernel_rfl) (by simp [Act.put]) SS.out ?_
    apply Exists.intro
    refine And.intro (fun w' hS' => ?_) ?_
    · go_wp2
      exact ⟨trivial, rfl⟩
    refine pl_take (i := 11) 16 rfl rfl rfl (by kernel_rfl) (by kernel_rfl) (by kernel_rfl) (by simp [Act.put]) SS.out ?_
    apply Exists.intro
    refine And.intro (fun w' hS' => ?_) ?_
    · go_wp2
      exact ⟨trivial, rfl⟩
    refine pl_take (i := 12) 17 rfl rfl rfl (by kernel_rfl) (by kernel_rfl) (by kernel_rfl) (by simp [Act.put]) SS.out ?_
    apply Exists.intro
    refine And.intro (fun w' hS' => ?_) ?_
    · go_wp2
      exact ⟨trivial, rfl⟩
    refine pl_take (i := 13) 18 rfl rfl rfl (by kernel_rfl) (by kernel_rfl) (by kernel_rfl) (by simp [Act.put]) SS.out ?_
    apply Exists.intro
    refine And.intro (fun w' hS' => ?_) ?_
    · go_wp2
      exact ⟨trivial, rfl⟩
    refine pl_take (i := 14) 19 rfl rfl rfl (by kernel_rfl) (by kernel_rfl) (by kernel_rfl) (by simp [Act.put]) SS.out ?_
    apply Exists.intro
    refine And.intro (fun w' hS' => ?_) ?_
    · go_wp2
      exact ⟨trivial, rfl⟩
    refine pl_take (i := 15) 20 rfl rfl rfl (by kernel_rfl) (by kernel_rfl) (by kernel_rfl) (by simp [Act.put]) SS.out ?_
    apply Exists.intro
    refine And.intro (fun w' hS' => ?_) ?_
    · go_wp2
      exact ⟨trivial, rfl⟩
    refine pl_take (i := 16) 21 rfl rfl rfl (by kernel_rfl) (by kernel_rfl) (by kernel_rfl) (by simp [Act.put]) SS.out ?_
    apply Exists.intro
    refine And.intro (fun w' hS' => ?_) ?_
    · go_wp2
      exact ⟨trivial, rfl⟩
    refine pl_take (i := 19) 24 rfl rfl rfl (by kernel_rfl) (by kernel_rfl) (by kernel_rfl) (by simp [Act.put]) SS.out ?_
    apply Exists.intro
    refine And.intro (fun w' hS' => ?_) ?_
    · go_wp2
      exact ⟨trivial, rfl⟩
    refine pl_take (i := 20) 25 rfl rfl rfl (by kernel_rfl) (by kernel_rfl) (by kernel_rfl) (by simp [Act.put]) SS.out ?_
    apply Exists.intro
    refine And.intro (fun w' hS' => ?_) ?_
    · go_wp2
      exact ⟨trivial, rfl⟩
    refine ord_three (i := 8) (j := 17) (k := 21) rfl rfl rfl (by kernel_rfl) ?_ ?_ ?_
    · skip
      go_wp2_with fail
      refine (knot_any w2 ha hb HX.out.1 HX.out.2).mono ?_
      rintro e u1 ⟨rfl, b⟩
      replace SS := Lib.hid (SS.out.fresh b)
      replace BB := Lib.hid (BB.out.tr b)
      clear b
      go_wp2
      refine And.intro SS.out ?_
      refine ord_two (i := 17) (j := 21) rfl rfl (by kernel_rfl) ?_ ?_
      · skip
        go_wp2
        have SSo := SS
        obtain ⟨u2, h, k, b, s⟩ := alloc_cb u1 42 [.slice (some ⟨ga, 0, none⟩) 32 32, .slice (some ⟨gb, 0, none⟩) 32 32]
        have q := SS.out.fresh b
        refine And.intro (by rw [h] at q; exact q) ?_
        change wpAnyH _ _ _ _ _ _ _ _ (u1.alloc (.cells [.slice (some ⟨ga, 0, none⟩) 32 32, .slice (some ⟨gb, 0, none⟩) 32 32].toArray 42))
        rw [← h]
        have LX : w.heap.size ≤ u1.heap.size := (BB.out).size
        replace SS := Lib.hid (SS.out.fresh b)
        replace BB := Lib.hid (BB.out.tr b)
        obtain ⟨GA, hG⟩ : ∃ G, G = u1.heap.size := ⟨_, rfl⟩
        rw [← hG] at k ⊢
        have LGA : Hid (w.heap.size ≤ GA) := Lib.hid (by rw [hG]; exact LX)
        have KGA := Lib.hid k
        have PP : Hid (Pts u2 (.slice (some ⟨GA, 0, none⟩) 2 2) [ha, hb]) := Lib.hid (by have q := Pts.two u1 42 (.slice (some ⟨ga, 0, none⟩) 32 32) (.slice (some ⟨gb, 0, none⟩) 32 32) ha hb SSo.out.1.rd SSo.out.2.rd; rw [← hG] at q; rw [h]; exact q)
        clear h k b s q hG LX SSo
        refine ord_two (i := 18) (j := 21) rfl rfl (by kernel_rfl) ?_ ?_
        · skip
          go_wp2_with fail
          refine (CT.out u2 _ PP.out).mono ?_
          rintro e u3 ⟨v, rfl, r, b, ov⟩
          obtain ⟨ax, cx, rfl⟩ := r.slice
          have OV : Hid (∀ k, (Value.slice ax n cx).ownBlock = some k → w.heap.size ≤ k) := Lib.hid (fun k hk => Nat.le_trans BB.out.size (ov k hk))
          replace SS := Lib.hid (SS.out.fresh b)
          replace BB := Lib.hid (BB.out.tr b)
          replace KGA := Lib.hid (KGA.out.fresh b)
          replace PP := Lib.hid (PP.out.fresh b)
          have RR : Hid (Rd u3 1 (.slice ax n cx) n (bvs T)) := Lib.hid r
          clear r ov
          clear b
          go_wp2
          refine And.intro SS.out ?_
          refine pl_heavy (i := 21) rfl (by kernel_rfl) ?_
          go_wp2
          have SSo := SS
          obtain ⟨u4, h, k, b, s⟩ := alloc_cb u3 163 [.pointer (some ⟨ga, 0, none⟩), .pointer (some ⟨gb, 0, none⟩)]
          have q := SS.out.fresh b
          refine And.intro (by rw [h] at q; exact q) ?_
          change wpAnyH _ _ _ _ _ _ _ _ (u3.alloc (.cells [.pointer (some ⟨ga, 0, none⟩), .pointer (some ⟨gb, 0, none⟩)].toArray 163))
          rw [← h]
          have LX : w.heap.size ≤ u3.heap.size := (BB.out).size
          replace SS := Lib.hid (SS.out.fresh b)
          replace BB := Lib.hid (BB.out.tr b)
          replace KGA := Lib.hid (KGA.out.fresh b)
          replace PP := Lib.hid (PP.out.fresh b)
          replace RR := Lib.hid (RR.out.fresh b)
          obtain ⟨GB, hG⟩ : ∃ G, G = u3.heap.size := ⟨_, rfl⟩
          rw [← hG] at k ⊢
          have LGB : Hid (w.heap.size ≤ GB) := Lib.hid (by rw [hG]; exact LX)
          have KGB := Lib.hid k
          clear h k b s q hG LX SSo
          exact HREST.out u4 GA ax cx GB ⟨SS.out, RR.out, OV.out, LGB.out, KGB.out, BB.out⟩
        · skip
          go_wp2
          have SSo := SS
          obtain ⟨u5, h, k, b, s⟩ := alloc_cb u2 163 [.pointer (some ⟨ga, 0, none⟩), .pointer (some ⟨gb, 0, none⟩)]
          have q := SS.out.fresh b
          refine And.intro (by rw [h] at q; exact q) ?_
          change wpAnyH _ _ _ _ _ _ _ _ (u2.alloc (.cells [.pointer (some ⟨ga, 0, none⟩), .pointer (some ⟨gb, 0, none⟩)].toArray 163))
          rw [← h]
          have LX : w.heap.size ≤ u2.heap.size := (BB.out).size
          replace SS := Lib.hid (SS.out.fresh b)
          replace BB := Lib.hid (BB.out.tr b)
          replace KGA := Lib.hid (KGA.out.fresh b)
          replace PP := Lib.hid (PP.out.fresh b)
          obtain ⟨GB, hG⟩ : ∃ G, G = u2.heap.size := ⟨_, rfl⟩
          rw [← hG] at k ⊢
          have LGB : Hid (w.heap.size ≤ GB) := Lib.hid (by rw [hG]; exact LX)
          have KGB := Lib.hid k
          clear h k b s q hG LX SSo
          refine pl_heavy (i := 18) rfl (by kernel_rfl) ?_
          go_wp2_with fail
          refine (CT.out u5 _ PP.out).mono ?_
          rintro e u6 ⟨v, rfl, r, b, ov⟩
          obtain ⟨ax, cx, rfl⟩ := r.slice
          have OV : Hid (∀ k, (Value.slice ax n cx).ownBlock = some k → w.heap.size ≤ k) := Lib.hid (fun k hk => Nat.le_trans BB.out.size (ov k hk))
          replace SS := Lib.hid (SS.out.fresh b)
          replace BB := Lib.hid (BB.out.tr b)
          replace KGA := Lib.hid (KGA.out.fresh b)
          replace PP := Lib.hid (PP.out.fresh b)
          replace KGB := Lib.hid (KGB.out.fresh b)
          have RR : Hid (Rd u6 1 (.slice ax n cx) n (bvs T)) := Lib.hid r
          clear r ov
          clear b
          go_wp2
          refine And.intro SS.out ?_
          exact HREST.out u6 GA ax cx GB ⟨SS.out, RR.out, OV.out, LGB.out, KGB.out, BB.out⟩
      · skip
        go_wp2
        have SSo := SS
        obtain ⟨u7, h, k, b, s⟩ := alloc_cb u1 163 [.pointer (some ⟨ga, 0, none⟩), .pointer (some ⟨gb, 0, none⟩)]
        have q := SS.out.fresh b
        refine And.intro (by rw [h] at q; exact q) ?_
        change wpAnyH _ _ _ _ _ _ _ _ (u1.alloc (.cells [.pointer (some ⟨ga, 0, none⟩), .pointer (some ⟨gb, 0, none⟩)].toArray 163))
        rw [← h]
        have LX : w.heap.size ≤ u1.heap.size := (BB.out).size
        replace SS := Lib.hid (SS.out.fresh b)
        replace BB := Lib.hid (BB.out.tr b)
        obtain ⟨GB, hG⟩ : ∃ G, G = u1.heap.size := ⟨_, rfl⟩
        rw [← hG] at k ⊢
        have LGB : Hid (w.heap.size ≤ GB) := Lib.hid (by rw [hG]; exact LX)
        have KGB := Lib.hid k
        clear h k b s q hG LX SSo
        refine pl_heavy (i := 17) rfl (by kernel_rfl) ?_
        go_wp2
        have SSo := SS
        obtain ⟨u8, h, k, b, s⟩ := alloc_cb u7 42 [.slice (some ⟨ga, 0, none⟩) 32 32, .slice (some ⟨gb, 0, none⟩) 32 32]
        have q := SS.out.fresh b
        refine And.intro (by rw [h] at q; exact q) ?_
        change wpAnyH _ _ _ _ _ _ _ _ (u7.alloc (.cells [.slice (some ⟨ga, 0, none⟩) 32 32, .slice (some ⟨gb, 0, none⟩) 32 32].toArray 42))
        rw [← h]
        have LX : w.heap.size ≤ u7.heap.size := (BB.out).size
        replace SS := Lib.hid (SS.out.fresh b)
        replace BB := Lib.hid (BB.out.tr b)
        replace KGB := Lib.hid (KGB.out.fresh b)
        obtain ⟨GA, hG⟩ : ∃ G, G = u7.heap.size := ⟨_, rfl⟩
        rw [← hG] at k ⊢
        have LGA : Hid (w.heap.size ≤ GA) := Lib.hid (by rw [hG]; exact LX)
        have KGA := Lib.hid k
        have PP : Hid (Pts u8 (.slice (some ⟨GA, 0, none⟩) 2 2) [ha, hb]) := Lib.hid (by have q := Pts.two u7 42 (.slice (some ⟨ga, 0, none⟩) 32 32) (.slice (some ⟨gb, 0, none⟩) 32 32) ha hb SSo.out.1.rd SSo.out.2.rd; rw [← hG] at q; rw [h]; exact q)
        clear h k b s q hG LX SSo
        refine pl_heavy (i := 18) rfl (by kernel_rfl) ?_
        go_wp2_with fail
        refine (CT.out u8 _ PP.out).mono ?_
        rintro e u9 ⟨v, rfl, r, b, ov⟩
        obtain ⟨ax, cx, rfl⟩ := r.slice
        have OV : Hid (∀ k, (Value.slice ax n cx).ownBlock = some k → w.heap.size ≤ k) := Lib.hid (fun k hk => Nat.le_trans BB.out.size (ov k hk))
        replace SS := Lib.hid (SS.out.fresh b)
        replace BB := Lib.hid (BB.out.tr b)
        replace KGB := Lib.hid (KGB.out.fresh b)
        replace KGA := Lib.hid (KGA.out.fresh b)
        replace PP := Lib.hid (PP.out.fresh b)
        have RR : Hid (Rd u9 1 (.slice ax n cx) n (bvs T)) := Lib.hid r
        clear r ov
        clear b
        go_wp2
        refine And.intro SS.out ?_
        exact HREST.out u9 GA ax cx GB ⟨SS.out, RR.out, OV.out, LGB.out, KGB.out, BB.out⟩
    · skip
      go_wp2
      have SSo := SS
      obtain ⟨u10, h, k, b, s⟩ := alloc_cb w2 42 [.slice (some ⟨ga, 0, none⟩) 32 32, .slice (some ⟨gb, 0, none⟩) 32 32]
      have q := SS.out.fresh b
      refine And.intro (by rw [h] at q; exact q) ?_
      change wpAnyH _ _ _ _ _ _ _ _ (w2.alloc (.cells [.slice (some ⟨ga, 0, none⟩) 32 32, .slice (some ⟨gb, 0, none⟩) 32 32].toArray 42))
      rw [← h]
      have LX : w.heap.size ≤ w2.heap.size := (BB.out).size
      replace SS := Lib.hid (SS.out.fresh b)
      replace BB := Lib.hid (BB.out.tr b)
      obtain ⟨GA, hG⟩ : ∃ G, G = w2.heap.size := ⟨_, rfl⟩
      rw [← hG] at k ⊢
      have LGA : Hid (w.heap.size ≤ GA) := Lib.hid (by rw [hG]; exact LX)
      have KGA := Lib.hid k
      have PP : Hid (Pts u10 (.slice (some ⟨GA, 0, none⟩) 2 2) [ha, hb]) := Lib.hid (by have q := Pts.two w2 42 (.slice (some ⟨ga, 0, none⟩) 32 32) (.slice (some ⟨gb, 0, none⟩) 32 32) ha hb SSo.out.1.rd SSo.out.2.rd; rw [← hG] at q; rw [h]; exact q)
      clear h k b s q hG LX SSo
      refine ord_two (i := 8) (j := 21) rfl rfl (by kernel_rfl) ?_ ?_
      · skip
        go_wp2_with fail
        refine (knot_any u10 ha hb HX.out.1 HX.out.2).mono ?_
        rintro e u11 ⟨rfl, b⟩
        replace SS := Lib.hid (SS.out.fresh b)
        replace BB := Lib.hid (BB.out.tr b)
        replace KGA := Lib.hid (KGA.out.fresh b)
        replace PP := Lib.hid (PP.out.fresh b)
        clear b
        go_wp2
        refine And.intro SS.out ?_
        refine ord_two (i := 18) (j := 21) rfl rfl (by kernel_rfl) ?_ ?_
        · skip
          go_wp2_with fail
          refine (CT.out u11 _ PP.out).mono ?_
          rintro e u12 ⟨v, rfl, r, b, ov⟩
          obtain ⟨ax, cx, rfl⟩ := r.slice
          have OV : Hid (∀ k, (Value.slice ax n cx).ownBlock = some k → w.heap.size ≤ k) := Lib.hid (fun k hk => Nat.le_trans BB.out.size (ov k hk))
          replace SS := Lib.hid (SS.out.fresh b)
          replace BB := Lib.hid (BB.out.tr b)
          replace KGA := Lib.hid (KGA.out.fresh b)
          replace PP := Lib.hid (PP.out.fresh b)
          have RR : Hid (Rd u12 1 (.slice ax n cx) n (bvs T)) := Lib.hid r
          clear r ov
          clear b
          go_wp2
          refine And.intro SS.out ?_
          refine pl_heavy (i := 21) rfl (by kernel_rfl) ?_
          go_wp2
          have SSo := SS
          obtain ⟨u13, h, k, b, s⟩ := alloc_cb u12 163 [.pointer (some ⟨ga, 0, none⟩), .pointer (some ⟨gb, 0, none⟩)]
          have q := SS.out.fresh b
          refine And.intro (by rw [h] at q; exact q) ?_
          change wpAnyH _ _ _ _ _ _ _ _ (u12.alloc (.cells [.pointer (some ⟨ga, 0, none⟩), .pointer (some ⟨gb, 0, none⟩)].toArray 163))
          rw [← h]
          have LX : w.heap.size ≤ u12.heap.size := (BB.out).size
          replace SS := Lib.hid (SS.out.fresh b)
          replace BB := Lib.hid (BB.out.tr b)
          replace KGA := Lib.hid (KGA.out.fresh b)
          replace PP := Lib.hid (PP.out.fresh b)
          replace RR := Lib.hid (RR.out.fresh b)
          obtain ⟨GB, hG⟩ : ∃ G, G = u12.heap.size := ⟨_, rfl⟩
          rw [← hG] at k ⊢
          have LGB : Hid (w.heap.size ≤ GB) := Lib.hid (by rw [hG]; exact LX)
          have KGB := Lib.hid k
          clear h k b s q hG LX SSo
          exact HREST.out u13 GA ax cx GB ⟨SS.out, RR.out, OV.out, LGB.out, KGB.out, BB.out⟩
        · skip
          go_wp2
          have SSo := SS
          obtain ⟨u14, h, k, b, s⟩ := alloc_cb u11 163 [.pointer (some ⟨ga, 0, none⟩), .pointer (some ⟨gb, 0, none⟩)]
          have q := SS.out.fresh b
          refine And.intro (by rw [h] at q; exact q) ?_
          change wpAnyH _ _ _ _ _ _ _ _ (u11.alloc (.cells [.pointer (some ⟨ga, 0, none⟩), .pointer (some ⟨gb, 0, none⟩)].toArray 163))
          rw [← h]
          have LX : w.heap.size ≤ u11.heap.size := (BB.out).size
          replace SS := Lib.hid (SS.out.fresh b)
          replace BB := Lib.hid (BB.out.tr b)
          replace KGA := Lib.hid (KGA.out.fresh b)
          replace PP := Lib.hid (PP.out.fresh b)
          obtain ⟨GB, hG⟩ : ∃ G, G = u11.heap.size := ⟨_, rfl⟩
          rw [← hG] at k ⊢
          have LGB : Hid (w.heap.size ≤ GB) := Lib.hid (by rw [hG]; exact LX)
          have KGB := Lib.hid k
          clear h k b s q hG LX SSo
          refine pl_heavy (i := 18) rfl (by kernel_rfl) ?_
          go_wp2_with fail
          refine (CT.out u14 _ PP.out).mono ?_
          rintro e u15 ⟨v, rfl, r, b, ov⟩
          obtain ⟨ax, cx, rfl⟩ := r.slice
          have OV : Hid (∀ k, (Value.slice ax n cx).ownBlock = some k → w.heap.size ≤ k) := Lib.hid (fun k hk => Nat.le_trans BB.out.size (ov k hk))
          replace SS := Lib.hid (SS.out.fresh b)
          replace BB := Lib.hid (BB.out.tr b)
          replace KGA := Lib.hid (KGA.out.fresh b)
          replace PP := Lib.hid (PP.out.fresh b)
          replace KGB := Lib.hid (KGB.out.fresh b)
          have RR : Hid (Rd u15 1 (.slice ax n cx) n (bvs T)) := Lib.hid r
          clear r ov
          clear b
          go_wp2
          refine And.intro SS.out ?_
          exact HREST.out u15 GA ax cx GB ⟨SS.out, RR.out, OV.out, LGB.out, KGB.out, BB.out⟩
      · skip
        go_wp2
        have SSo := SS
        obtain ⟨u16, h, k, b, s⟩ := alloc_cb u10 163 [.pointer (some ⟨ga, 0, none⟩), .pointer (some ⟨gb, 0, none⟩)]
        have q := SS.out.fresh b
        refine And.intro (by rw [h] at q; exact q) ?_
        change wpAnyH _ _ _ _ _ _ _ _ (u10.alloc (.cells [.pointer (some ⟨ga, 0, none⟩), .pointer (some ⟨gb, 0, none⟩)].toArray 163))
        rw [← h]
        have LX : w.heap.size ≤ u10.heap.size := (BB.out).size
        replace SS := Lib.hid (SS.out.fresh b)
        replace BB := Lib.hid (BB.out.tr b)
        replace KGA := Lib.hid (KGA.out.fresh b)
        replace PP := Lib.hid (PP.out.fresh b)
        obtain ⟨GB, hG⟩ : ∃ G, G = u10.heap.size := ⟨_, rfl⟩
        rw [← hG] at k ⊢
        have LGB : Hid (w.heap.size ≤ GB) := Lib.hid (by rw [hG]; exact LX)
        have KGB := Lib.hid k
        clear h k b s q hG LX SSo
        refine pl_heavy (i := 8) rfl (by kernel_rfl) ?_
        go_wp2_with fail
        refine (knot_any u16 ha hb HX.out.1 HX.out.2).mono ?_
        rintro e u17 ⟨rfl, b⟩
        replace SS := Lib.hid (SS.out.fresh b)
        replace BB := Lib.hid (BB.out.tr b)
        replace KGA := Lib.hid (KGA.out.fresh b)
        replace PP := Lib.hid (PP.out.fresh b)
        replace KGB := Lib.hid (KGB.out.fresh b)
        clear b
        go_wp2
        refine And.intro SS.out ?_
        refine pl_heavy (i := 18) rfl (by kernel_rfl) ?_
        go_wp2_with fail
        refine (CT.out u17 _ PP.out).mono ?_
        rintro e u18 ⟨v, rfl, r, b, ov⟩
        obtain ⟨ax, cx, rfl⟩ := r.slice
        have OV : Hid (∀ k, (Value.slice ax n cx).ownBlock = some k → w.heap.size ≤ k) := Lib.hid (fun k hk => Nat.le_trans BB.out.size (ov k hk))
        replace SS := Lib.hid (SS.out.fresh b)
        replace BB := Lib.hid (BB.out.tr b)
        replace KGA := Lib.hid (KGA.out.fresh b)
        replace PP := Lib.hid (PP.out.fresh b)
        replace KGB := Lib.hid (KGB.out.fresh b)
        have RR : Hid (Rd u18 1 (.slice ax n cx) n (bvs T)) := Lib.hid r
        clear r ov
        clear b
        go_wp2
        refine And.intro SS.out ?_
        exact HREST.out u18 GA ax cx GB ⟨SS.out, RR.out, OV.out, LGB.out, KGB.out, BB.out⟩
    · skip
      go_wp2
      have SSo := SS
      obtain ⟨u19, h, k, b, s⟩ := alloc_cb w2 163 [.pointer (some ⟨ga, 0, none⟩), .pointer (some ⟨gb, 0, none⟩)]
      have q := SS.out.fresh b
      refine And.intro (by rw [h] at q; exact q) ?_
      change wpAnyH _ _ _ _ _ _ _ _ (w2.alloc (.cells [.pointer (some ⟨ga, 0, none⟩), .pointer (some ⟨gb, 0, none⟩)].toArray 163))
      rw [← h]
      have LX : w.heap.size ≤ w2.heap.size := (BB.out).size
      replace SS := Lib.hid (SS.out.fresh b)
      replace BB := Lib.hid (BB.out.tr b)
      obtain ⟨GB, hG⟩ : ∃ G, G = w2.heap.size := ⟨_, rfl⟩
      rw [← hG] at k ⊢
      have LGB : Hid (w.heap.size ≤ GB) := Lib.hid (by rw [hG]; exact LX)
      have KGB := Lib.hid k
      clear h k b s q hG LX SSo
      refine ord_two (i := 8) (j := 17) rfl rfl (by kernel_rfl) ?_ ?_
      · skip
        go_wp2_with fail
        refine (knot_any u19 ha hb HX.out.1 HX.out.2).mono ?_
        rintro e u20 ⟨rfl, b⟩
        replace SS := Lib.hid (SS.out.fresh b)
        replace BB := Lib.hid (BB.out.tr b)
        replace KGB := Lib.hid (KGB.out.fresh b)
        clear b
        go_wp2
        refine And.intro SS.out ?_
        refine pl_heavy (i := 17) rfl (by kernel_rfl) ?_
        go_wp2
        have SSo := SS
        obtain ⟨u21, h, k, b, s⟩ := alloc_cb u20 42 [.slice (some ⟨ga, 0, none⟩) 32 32, .slice (some ⟨gb, 0, none⟩) 32 32]
        have q := SS.out.fresh b
        refine And.intro (by rw [h] at q; exact q) ?_
        change wpAnyH _ _ _ _ _ _ _ _ (u20.alloc (.cells [.slice (some ⟨ga, 0, none⟩) 32 32, .slice (some ⟨gb, 0, none⟩) 32 32].toArray 42))
        rw [← h]
        have LX : w.heap.size ≤ u20.heap.size := (BB.out).size
        replace SS := Lib.hid (SS.out.fresh b)
        replace BB := Lib.hid (BB.out.tr b)
        replace KGB := Lib.hid (KGB.out.fresh b)
        obtain ⟨GA, hG⟩ : ∃ G, G = u20.heap.size := ⟨_, rfl⟩
        rw [← hG] at k ⊢
        have LGA : Hid (w.heap.size ≤ GA) := Lib.hid (by rw [hG]; exact LX)
        have KGA := Lib.hid k
        have PP : Hid (Pts u21 (.slice (some ⟨GA, 0, none⟩) 2 2) [ha, hb]) := Lib.hid (by have q := Pts.two u20 42 (.slice (some ⟨ga, 0, none⟩) 32 32) (.slice (some ⟨gb, 0, none⟩) 32 32) ha hb SSo.out.1.rd SSo.out.2.rd; rw [← hG] at q; rw [h]; exact q)
        clear h k b s q hG LX SSo
        refine pl_heavy (i := 18) rfl (by kernel_rfl) ?_
        go_wp2_with fail
        refine (CT.out u21 _ PP.out).mono ?_
        rintro e u22 ⟨v, rfl, r, b, ov⟩
        obtain ⟨ax, cx, rfl⟩ := r.slice
        have OV : Hid (∀ k, (Value.slice ax n cx).ownBlock = some k → w.heap.size ≤ k) := Lib.hid (fun k hk => Nat.le_trans BB.out.size (ov k hk))
        replace SS := Lib.hid (SS.out.fresh b)
        replace BB := Lib.hid (BB.out.tr b)
        replace KGB := Lib.hid (KGB.out.fresh b)
        replace KGA := Lib.hid (KGA.out.fresh b)
        replace PP := Lib.hid (PP.out.fresh b)
        have RR : Hid (Rd u22 1 (.slice ax n cx) n (bvs T)) := Lib.hid r
        clear r ov
        clear b
        go_wp2
        refine And.intro SS.out ?_
        exact HREST.out u22 GA ax cx GB ⟨SS.out, RR.out, OV.out, LGB.out, KGB.out, BB.out⟩
      · skip
        go_wp2
        have SSo := SS
        obtain ⟨u23, h, k, b, s⟩ := alloc_cb u19 42 [.slice (some ⟨ga, 0, none⟩) 32 32, .slice (some ⟨gb, 0, none⟩) 32 32]
        have q := SS.out.fresh b
        refine And.intro (by rw [h] at q; exact q) ?_
        change wpAnyH _ _ _ _ _ _ _ _ (u19.alloc (.cells [.slice (some ⟨ga, 0, none⟩) 32 32, .slice (some ⟨gb, 0, none⟩) 32 32].toArray 42))
        rw [← h]
        have LX : w.heap.size ≤ u19.heap.size := (BB.out).size
        replace SS := Lib.hid (SS.out.fresh b)
        replace BB := Lib.hid (BB.out.tr b)
        replace KGB := Lib.hid (KGB.out.fresh b)
        obtain ⟨GA, hG⟩ : ∃ G, G = u19.heap.size := ⟨_, rfl⟩
        rw [← hG] at k ⊢
        have LGA : Hid (w.heap.size ≤ GA) := Lib.hid (by rw [hG]; exact LX)
        have KGA := Lib.hid k
        have PP : Hid (Pts u23 (.slice (some ⟨GA, 0, none⟩) 2 2) [ha, hb]) := Lib.hid (by have q := Pts.two u19 42 (.slice (some ⟨ga, 0, none⟩) 32 32) (.slice (some ⟨gb, 0, none⟩) 32 32) ha hb SSo.out.1.rd SSo.out.2.rd; rw [← hG] at q; rw [h]; exact q)
        clear h k b s q hG LX SSo
        refine pl_heavy (i := 8) rfl (by kernel_rfl) ?_
        go_wp2_with fail
        refine (knot_any u23 ha hb HX.out.1 HX.out.2).mono ?_
        rintro e u24 ⟨rfl, b⟩
        replace SS := Lib.hid (SS.out.fresh b)
        replace BB := Lib.hid (BB.out.tr b)
        replace KGB := Lib.hid (KGB.out.fresh b)
        replace KGA := Lib.hid (KGA.out.fresh b)
        replace PP := Lib.hid (PP.out.fresh b)
        clear b
        go_wp2
        refine And.intro SS.out ?_
        refine pl_heavy (i := 18) rfl (by kernel_rfl) ?_
        go_wp2_with fail
        refine (CT.out u24 _ PP.out).mono ?_
        rintro e u25 ⟨v, rfl, r, b, ov⟩
        obtain ⟨ax, cx, rfl⟩ := r.slice
        have OV : Hid (∀ k, (Value.slice ax n cx).ownBlock = some k → w.heap.size ≤ k) := Lib.hid (fun k hk => Nat.le_trans BB.out.size (ov k hk))
        replace SS := Lib.hid (SS.out.fresh b)
        replace BB := Lib.hid (BB.out.tr b)
        replace KGB := Lib.hid (KGB.out.fresh b)
        replace KGA := Lib.hid (KGA.out.fresh b)
        replace PP := Lib.hid (PP.out.fresh b)
        have RR : Hid (Rd u25 1 (.slice ax n cx) n (bvs T)) := Lib.hid r
        clear r ov
        clear b
        go_wp2
        refine And.intro SS.out ?_
        exact HREST.out u25 GA ax cx GB ⟨SS.out, RR.out, OV.out, LGB.out, KGB.out, BB.out⟩
  case rest =>
    rintro wz G ax cx G2 ⟨SZ, RZ, OZ, LZ, KZ, BZ⟩
    have OZ' := Lib.hid OZ
    have LZ' := Lib.hid LZ
    clear OZ LZ
    have SZ' := Lib.hid SZ
    have RZ' := Lib.hid RZ
    have KZ' := Lib.hid KZ
    have BZ' := Lib.hid BZ
    clear SZ RZ BZ KZ SS BB
    refine pl_heavy (i := 22) rfl (by kernel_rfl) ?_
    refine wpList_buildP rfl _ _ rfl #[(0, .agg (bvs (knotB ha hb)).toArray), (1, .slice ax n cx), (2, .slice (some ⟨G2, 0, none⟩) 2 2)] _ (by kernel_rfl) (build_node3 wz (knotB ha hb) (knotB_length _ _) ax (some ⟨G2, 0, none⟩) n cx 2 2) ?_
    go_wp2
    refine And.intro SZ'.out ?_
    refine pl_heavy (i := 23) rfl (by kernel_rfl) ?_
    go_wp2
    obtain ⟨wn, h, k, b, s⟩ := alloc_cb wz 166 (bvs (knotB ha hb) ++ [Value.slice ax n cx, Value.slice (some ⟨G2, 0, none⟩) 2 2])
    have q := SZ'.out.fresh b
    refine And.intro (by rw [h] at q; exact q) ?_
    change wpAnyH _ _ _ _ _ _ _ _ (wz.alloc (.cells (bvs (knotB ha hb) ++ [Value.slice ax n cx, Value.slice (some ⟨G2, 0, none⟩) 2 2]).toArray 166))
    rw [← h]
    obtain ⟨g, hg⟩ : ∃ g, g = wz.heap.size := ⟨_, rfl⟩
    rw [← hg] at k ⊢
    have NN : Hid (NodeAt wn (fun k => w.heap.size ≤ k) g (knotB ha hb) (knotT ha hb) [ga, gb]) := Lib.hid ⟨knotB_length _ _, by rw [hg]; exact BZ'.out.size, _, _, k, by rw [← hTT.out, ← hnl.out]; exact RZ'.out.fresh b, .inr ⟨G2, rfl, KZ'.out.fresh b⟩, OZ'.out, fun k hk => by simp [Value.ownBlock] at hk; have := LZ'.out; omega⟩
    have SN := Lib.hid q
    have BN := Lib.hid (BZ'.out.tr b)
    clear h k b s q hg
    refine pl_heavy (i := 24) rfl (by kernel_rfl) ?_
    go_wp2
    refine And.intro SN.out ?_
    refine pl_done (by kernel_rfl) ?_
    go_wp2
    go_ret
    exact ⟨g, rfl, NN.out, BN.out⟩

end Go.Proofs.Ytbabjepblakboaa
