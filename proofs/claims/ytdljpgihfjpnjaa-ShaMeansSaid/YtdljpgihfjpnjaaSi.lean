/- ShaMeans: texts under unlike names are unlike; regions in which two may come up. -/
import Derived.Test.YtdljpgihfjpnjaaSz
import Derived.Test.YtdljpgihfjpnjaaPlan
import Derived.Deep.DeepCutAuto
import Derived.WalkSmall
namespace Go.Proofs.Ytdljpgihfjpnjaa
set_option linter.unusedVariables false
set_option linter.unusedSimpArgs false
open Go.RowKit Go.Lib

theorem textB_inj (s t m n : List UInt8) (hs : s.length ≤ 200) (ht : t.length ≤ 200) : textB s m = textB t n ↔ s = t ∧ m = n := by
  constructor
  · intro h
    unfold textB at h
    rw [List.take_of_length_le (by omega), List.take_of_length_le (by omega)] at h
    simp only [List.cons.injEq] at h
    obtain ⟨h1, h2⟩ := h
    have h3 := congrArg UInt8.toNat h1
    simp only [UInt8.toNat_ofNat'] at h3
    rw [Nat.mod_eq_of_lt (by omega), Nat.mod_eq_of_lt (by omega)] at h3
    exact List.append_inj h2 h3
  · rintro ⟨rfl, rfl⟩
    rfl

section
variable {P : Program} {ops : Array Oper} {S : World → Prop} {K : Act → World → Prop}

theorem pl_op {i : Nat} {o : Oper} {a : Act} {w : World} {X : Act → World → Prop} (hi : ops[i]? = some o)
    (h : wpList P ops (Exit.then X noExit) [o] a w) : wpOp P ops (PQ K) i X a w := by
  unfold wpOp
  rw [hi]
  simp only
  unfold wpList at h
  split
  · rename_i hw
    rw [if_pos hw] at h
    rcases h with h | ⟨hk, a0, w0, hf⟩
    · left
      unfold Oper.wp at h ⊢
      generalize (execOp a.eval o).run P w = r at h ⊢
      cases r with
      | ok n w1 =>
        cases n <;> simp only [Oper.upon] at h ⊢ <;> first
          | exact h
          | exact Calls.mono h (fun e w2 he => by
              cases e with
              | returned v => exact he
              | panicked c => exact (he : False).elim
              | outgrown => obtain ⟨_, _, hf⟩ := he; exact (hf : False).elim)
          | exact Rows.mono h (fun _ _ he => he)
      | halt x w1 =>
        cases x <;> simp only [Oper.upon] at h ⊢ <;> exact h
    · exact (hf : False).elim
  · rename_i hw
    rw [if_neg hw] at h
    exact h

/-- Number i or number j may come up. -/
theorem pl_two {i j fuel : Nat} {oi oj : Oper} {listed : Array Bool} {a : Act} {w : World} (hi : ops[i]? = some oi) (hj : ops[j]? = some oj) (hr : Region.ready .any ops listed = [i, j])
    (h1 : wpList P ops (Exit.then (fun a' w' => S w' ∧ wpAnyH P .any ops (PQ K) S fuel (listed.setIfInBounds i true) a' w') noExit) [oi] a w)
    (h2 : wpList P ops (Exit.then (fun a' w' => S w' ∧ wpAnyH P .any ops (PQ K) S fuel (listed.setIfInBounds j true) a' w') noExit) [oj] a w) : wpAnyH P .any ops (PQ K) S (fuel + 1) listed a w := by
  refine wpAnyH_all hr (by simp) ?_
  intro k hk
  simp only [List.mem_cons, List.not_mem_nil, or_false] at hk
  rcases hk with rfl | rfl
  · exact pl_op hi h1
  · exact pl_op hj h2
end

def L5 (m n : List UInt8) (o q : Nat) : List (List UInt8) := [m.take o, [], (m.drop o).take (q - o), m.drop q, n]

/-- A part of what is read, as the program cuts it out. -/
theorem Rd.part {w : World} {ad : Addr} {ml c : Nat} {m : List UInt8} (h : Rd w 1 (.slice (some ad) ml c) ml (bvs m)) (hml : ml = m.length) (o k : Nat) (ho : o + k ≤ ml) (hlc : ml ≤ c) (hcm : c ≤ maxLen) :
    Rd w 1 (.slice (if c = o then some ad else some (ad.add o)) k (c - o)) k (bvs ((m.drop o).take k)) := by
  have hl : ((m.drop o).take k).length = k := by rw [List.length_take, List.length_drop]; omega
  split
  · have hk : k = 0 := by omega
    subst hk
    refine ⟨by simp, .inr ⟨ad, c - o, rfl, by omega, by omega, fun j u hj => by simp [bvs] at hj⟩⟩
  · have h1 := Rd.drop h o (c - o) (by omega) (by omega) (by omega)
    have h2 := Rd.take h1 k (c - o) (by omega) (by omega) (by omega)
    exact h2

theorem Rd.partO {w : World} {ma : Option Addr} {ml c : Nat} {m : List UInt8} (h : Rd w 1 (.slice ma ml c) ml (bvs m)) (hml : ml = m.length) (o k : Nat) (ho : o + k ≤ ml) :
    Rd w 1 (.slice (if c = o then ma else Option.map (fun x => x.add o) ma) k (c - o)) k (bvs ((m.drop o).take k)) := by
  rcases h.2 with ⟨he, h0⟩ | ⟨ad, c', he, hlc, hcm, _⟩
  · simp only [Value.slice.injEq] at he
    obtain ⟨rfl, _, rfl⟩ := he
    have ho' : o = 0 := by omega
    have hk : k = 0 := by omega
    subst ho' hk
    have : (m.drop 0).take 0 = [] := by simp
    rw [this]
    exact Rd.nil _ _
  · simp only [Value.slice.injEq, true_and] at he
    obtain ⟨rfl, rfl⟩ := he
    have h1 := Rd.part h hml o k ho hlc hcm
    split
    · rename_i hc
      rw [if_pos hc] at h1
      exact h1
    · rename_i hc
      rw [if_neg hc] at h1
      exact h1

theorem Rd.headO {w : World} {ma : Option Addr} {ml c : Nat} {m : List UInt8} (h : Rd w 1 (.slice ma ml c) ml (bvs m)) (hml : ml = m.length) (o : Nat) (ho : o ≤ ml) :
    Rd w 1 (.slice ma o c) o (bvs (m.take o)) := by
  rcases h.2 with ⟨he, h0⟩ | ⟨ad, c', he, hlc, hcm, _⟩
  · simp only [Value.slice.injEq] at he
    obtain ⟨rfl, _, rfl⟩ := he
    have ho' : o = 0 := by omega
    subst ho'
    exact Rd.nil _ _
  · simp only [Value.slice.injEq, true_and] at he
    obtain ⟨rfl, rfl⟩ := he
    exact Rd.take h o c (by omega) (by omega) hcm

theorem Pts.many (w : World) (t : TypeId) (us : List Value) (L : List (List UInt8)) (hl : us.length = L.length) (h : ∀ (i : Nat) (x : List UInt8), L[i]? = some x → ∃ u, us[i]? = some u ∧ Rd w 1 u x.length (bvs x)) (hm : us.length ≤ maxLen) :
    Pts (w.alloc (.cells us.toArray t)) (.slice (some ⟨w.heap.size, 0, none⟩) us.length us.length) L := by
  have h1 := (CB.new w t us).rdAll hm
  refine ⟨us, by rw [← hl]; exact h1, fun i x hx => ?_⟩
  obtain ⟨u, hu, hr⟩ := h i x hx
  exact ⟨u, hu, hr.fresh ((Below.refl _ w).alloc (Nat.le_refl _) _)⟩

theorem hash_ne_self' (w : World) (xs : List UInt8) (hx : xs.length = 32) :
    (binOp .neq 30 (.agg (bvs xs).toArray) (.agg (bvs xs).toArray)).run Try.prog w = .ok (.bool false) w := by
  have h := hash_eq w xs xs hx hx
  rw [run_eql_struct] at h
  rw [run_neq_struct]
  revert h
  generalize (Op.equalIn 10000 30 (.agg (bvs xs).toArray) (.agg (bvs xs).toArray)).run Try.prog w = r
  intro h
  cases r with
  | ok b w1 =>
    simp only [Result.andThen_ok, Sem.run_pure, Result.ok.injEq, Value.bool.injEq] at h
    obtain ⟨rfl, rfl⟩ := h
    simp
  | halt x w1 => cases h

set_option maxRecDepth 100000 in
set_option maxHeartbeats 2000000 in
theorem means_tail (w : World) (vm vn : Value) (one two : Int) (s t m n : List UInt8) (hm : Rd w 1 vm m.length (bvs m)) (hn : Rd w 1 vn n.length (bvs n))
    (bm : m.length ≤ 3000) (bn : n.length ≤ 3000) (bs : s.length ≤ 200) (bt : t.length ≤ 200) :
    Calls Try.prog 8 #[vm, vn, .int .i64 one, .int .i64 two, .string ⟨s.toArray⟩, .string ⟨t.toArray⟩] w fun e w' => e = .returned (.bool true) ∧ Below w.heap.size w w' := by
  have hS : (⟨s.toArray⟩ : ByteArray).size = s.length := by simp [ByteArray.size]
  have hT : (⟨t.toArray⟩ : ByteArray).size = t.length := by simp [ByteArray.size]
  obtain ⟨ma, mc, rfl⟩ := hm.slice
  obtain ⟨na, nc, rfl⟩ := hn.slice
  have HK := Lib.hid (fun w0 => sknown_any w0)
  obtain ⟨A, hA⟩ : ∃ A, A = textB s m := ⟨_, rfl⟩
  obtain ⟨B, hB⟩ : ∃ B, B = textB t n := ⟨_, rfl⟩
  obtain ⟨X, hX⟩ : ∃ X, X = shaB A := ⟨_, rfl⟩
  obtain ⟨Y, hY⟩ : ∃ Y, Y = shaB B := ⟨_, rfl⟩
  have hXl : X.length = 32 := by rw [hX]; exact shaB_length _
  have hYl : Y.length = 32 := by rw [hY]; exact shaB_length _
  have hAl : A.length ≤ 100000 := by rw [hA]; simp only [textB, List.length_cons, List.length_append, List.length_take]; omega
  have hBl : B.length ≤ 100000 := by rw [hB]; simp only [textB, List.length_cons, List.length_append, List.length_take]; omega
  obtain ⟨b1, hb1'⟩ : ∃ b, b = (s == t) := ⟨_, rfl⟩
  obtain ⟨b2, hb2'⟩ : ∃ b, b = (m == n) := ⟨_, rfl⟩
  have beq_str : ∀ x y : List UInt8, ((⟨x.toArray⟩ : ByteArray).toList == (⟨y.toArray⟩ : ByteArray).toList) = (x == y) := by
    intro x y
    rw [ByteArray.toList_eq, ByteArray.toList_eq]
  have fAB : ((⟨A.toArray⟩ : ByteArray).toList == (⟨B.toArray⟩ : ByteArray).toList) = (b1 && b2) := by
    rw [beq_str, hb1', hb2', Bool.eq_iff_iff, hA, hB]
    simp only [beq_iff_eq, Bool.and_eq_true]
    exact textB_inj s t m n bs bt
  have fST : ((⟨s.toArray⟩ : ByteArray).toList == (⟨t.toArray⟩ : ByteArray).toList) = b1 := by rw [beq_str, hb1']
  have fMN : ((⟨m.toArray⟩ : ByteArray).toList == (⟨n.toArray⟩ : ByteArray).toList) = b2 := by rw [beq_str, hb2']
  have HT1 : Hid (∀ w0, Rd w0 1 (.slice ma m.length mc) m.length (bvs m) → Calls Try.prog 42 #[.string ⟨s.toArray⟩, .slice ma m.length mc] w0 fun e w' => ∃ v', e = .returned v' ∧ Rd w' 1 v' A.length (bvs A) ∧ Below w0.heap.size w0 w') := by
    refine Lib.hid fun w0 h0 => ?_
    rw [hA]
    exact text_any w0 _ s m h0 (by omega) (by omega)
  have HT2 : Hid (∀ w0, Rd w0 1 (.slice na n.length nc) n.length (bvs n) → Calls Try.prog 42 #[.string ⟨t.toArray⟩, .slice na n.length nc] w0 fun e w' => ∃ v', e = .returned v' ∧ Rd w' 1 v' B.length (bvs B) ∧ Below w0.heap.size w0 w') := by
    refine Lib.hid fun w0 h0 => ?_
    rw [hB]
    exact text_any w0 _ t n h0 (by omega) (by omega)
  have HG1 : Hid (∀ w0 v0, Pts w0 v0 [m] → Calls Try.prog 40 #[.string ⟨s.toArray⟩, v0] w0 fun e w' => e = .returned (.agg (bvs X).toArray) ∧ Below w0.heap.size w0 w') := by
    refine Lib.hid fun w0 v0 h0 => ?_
    have hf : ([m] : List (List UInt8)).flatten = m := by simp
    have h1 := tag_any w0 v0 s _ h0 (by simp) (by rw [hf]; omega) (by omega)
    rw [hf, ← hA, ← hX] at h1
    exact h1
  have HG2 : Hid (∀ w0 v0, Pts w0 v0 [n] → Calls Try.prog 40 #[.string ⟨t.toArray⟩, v0] w0 fun e w' => e = .returned (.agg (bvs Y).toArray) ∧ Below w0.heap.size w0 w') := by
    refine Lib.hid fun w0 v0 h0 => ?_
    have hf : ([n] : List (List UInt8)).flatten = n := by simp
    have h1 := tag_any w0 v0 t _ h0 (by simp) (by rw [hf]; omega) (by omega)
    rw [hf, ← hB, ← hY] at h1
    exact h1
  have HR1 : Hid (∀ w0 v0, Rd w0 1 v0 A.length (bvs A) → Calls Try.prog 39 #[v0] w0 fun e w' => e = .returned (.agg (bvs X).toArray) ∧ Below w0.heap.size w0 w') := by
    refine Lib.hid fun w0 v0 h0 => ?_
    rw [hX]
    exact rsum_any w0 v0 A h0 (by omega)
  have HR2 : Hid (∀ w0 v0, Rd w0 1 v0 B.length (bvs B) → Calls Try.prog 39 #[v0] w0 fun e w' => e = .returned (.agg (bvs Y).toArray) ∧ Below w0.heap.size w0 w') := by
    refine Lib.hid fun w0 v0 h0 => ?_
    rw [hY]
    exact rsum_any w0 v0 B h0 (by omega)
  obtain ⟨bb, hbb⟩ : ∃ bb, bb = (X == Y) := ⟨_, rfl⟩
  have HEQ : Hid (∀ w0, (binOp .eql 30 (.agg (bvs X).toArray) (.agg (bvs Y).toArray)).run Try.prog w0 = .ok (.bool bb) w0) := by
    refine Lib.hid fun w0 => ?_
    rw [hbb]
    exact hash_eq w0 X Y hXl hYl
  have HF := Lib.hid (And.intro fAB (And.intro fST fMN))
  clear fAB fST fMN hA hB hX hY hXl hYl hAl hBl hb1' hb2' hbb beq_str
  have iS : ¬ ((200 : Int) < ((⟨s.toArray⟩ : ByteArray).size : Int)) := by omega
  have iT : ¬ ((200 : Int) < ((⟨t.toArray⟩ : ByteArray).size : Int)) := by omega
  obtain ⟨ml, hml⟩ : ∃ k, k = m.length := ⟨_, rfl⟩
  rw [← hml] at hm HT1 ⊢
  have iM : ¬ ((3000 : Int) < (ml : Int)) := by omega
  have HML := Lib.hid hml
  clear hml
  have iN : ¬ ((3000 : Int) < (n.length : Int)) := by omega
  generalize (⟨s.toArray⟩ : ByteArray) = SS at *
  generalize (⟨t.toArray⟩ : ByteArray) = TT at *
  go_enter Try.func8, Try.ntmps8
  go_wp2_with fail
  refine (HK.out _).mono ?_
  rintro e w1 ⟨rfl, hb1⟩
  have HB1 := Lib.hid hb1
  clear hb1
  go_wp2_with fail
  go_cut [67] from 35 to 67 (fun v67 wx => v67 = .bool false ∧ Below w.heap.size w wx)
  case first =>
    by_cases h0 : one < 0
    · have c0 : ¬ (0 ≤ one) := by omega
      go_quiet (fail)
      go_wp2
      go_meet
      exact ⟨rfl, below_drewN HB1.out nq⟩
    by_cases h1 : two < one
    · have c0 : 0 ≤ one := by omega
      have c1 : ¬ (one ≤ two) := by omega
      go_quiet (fail)
      go_wp2
      go_meet
      exact ⟨rfl, below_drewN HB1.out nq⟩
    by_cases h2 : (ml : Int) < two
    · have c0 : 0 ≤ one := by omega
      have c1 : one ≤ two := by omega
      have c2 : ¬ (two ≤ (ml : Int)) := by omega
      go_quiet (fail)
      go_wp2
      go_meet
      exact ⟨rfl, below_drewN HB1.out nq⟩
    obtain ⟨o, rfl⟩ : ∃ o : Nat, one = (o : Int) := ⟨one.toNat, by omega⟩
    obtain ⟨q, rfl⟩ : ∃ q : Nat, two = (q : Int) := ⟨two.toNat, by omega⟩
    have c0 : (0 : Int) ≤ (o : Int) := by omega
    have c1 : (o : Int) ≤ (q : Int) := by omega
    have hml := HML.out
    have c2 : (q : Int) ≤ (ml : Int) := by omega
    have hlc : ml ≤ mc := by rcases hm.2 with ⟨he, h00⟩ | ⟨ad, c', he, hlc, hcm, _⟩ <;> simp only [Value.slice.injEq] at he <;> omega
    have c3 : (o : Int) ≤ (mc : Int) := by omega
    have c4 : (q : Int) ≤ (mc : Int) := by omega
    obtain ⟨X5, hX5⟩ : ∃ X, X = (if mc = o then ma else Option.map (fun x => x.add o) ma) := ⟨_, rfl⟩
    obtain ⟨X8, hX8⟩ : ∃ X, X = (if mc = q then ma else Option.map (fun x => x.add q) ma) := ⟨_, rfl⟩
    have i5 : (if mc = o then ma else Option.map (fun x => x.add o) ma) = X5 := hX5.symm
    have i8 : (if mc = q then ma else Option.map (fun x => x.add q) ma) = X8 := hX8.symm
    have HX := Lib.hid (And.intro hX5 hX8)
    clear hX5 hX8
    have hmn : m.take o ++ ((m.drop o).take (q - o) ++ m.drop q) = m := by
      have e1 : (m.drop o).take (q - o) ++ (m.drop o).drop (q - o) = m.drop o := List.take_append_drop _ _
      rw [List.drop_drop, show o + (q - o) = q by omega] at e1
      rw [e1, List.take_append_drop]
    obtain ⟨Z, hZ⟩ : ∃ Z, Z = shaB (m ++ n) := ⟨_, rfl⟩
    have hZl : Z.length = 32 := by rw [hZ]; exact shaB_length _
    have HZL := Lib.hid hZl
    have HC5 : Hid (∀ (w0 : World) (v0 : Value), Pts w0 v0 (L5 m n o q) → Calls Try.prog 38 #[v0] w0 fun e w' => e = .returned (.agg (bvs Z).toArray) ∧ Below w0.heap.size w0 w') := by
      refine Lib.hid fun w0 v0 hp => ?_
      have hfl : (L5 m n o q).flatten = m ++ n := by
        unfold L5
        simp only [List.flatten_cons, List.flatten_nil, List.append_nil, List.nil_append]
        rw [← List.append_assoc, ← List.append_assoc, List.append_assoc (m.take o), hmn]
      have h1 := sum_any w0 v0 _ hp (by simp [L5]) (by rw [hfl, List.length_append]; omega)
      rw [hfl, ← hZ] at h1
      exact h1
    have HC2 : Hid (∀ (w0 : World) (v0 : Value), Pts w0 v0 [m, n] → Calls Try.prog 38 #[v0] w0 fun e w' => e = .returned (.agg (bvs Z).toArray) ∧ Below w0.heap.size w0 w') := by
      refine Lib.hid fun w0 v0 hp => ?_
      have hfl : ([m, n] : List (List UInt8)).flatten = m ++ n := by simp
      have h1 := sum_any w0 v0 _ hp (by simp) (by rw [hfl, List.length_append]; omega)
      rw [hfl, ← hZ] at h1
      exact h1
    have hrm := hm.fresh HB1.out
    have hrn := hn.fresh HB1.out
    have HP5 : Hid (∀ w', Below w1.heap.size w1 w' → ∀ (i : Nat) (x : List UInt8), (L5 m n o q)[i]? = some x → ∃ u, [Value.slice ma o mc, .slice none 0 0, .slice X5 (q - o) (mc - o), .slice X8 (ml - q) (mc - q), .slice na n.length nc][i]? = some u ∧ Rd w' 1 u x.length (bvs x)) := by
      refine Lib.hid fun w' hb i x hx => ?_
      have hr1 := hrm.fresh hb
      have hr2 := hrn.fresh hb
      have t1 := Rd.headO hr1 hml o (by omega)
      have t2 := Rd.partO hr1 hml o (q - o) (by omega)
      have t3 := Rd.partO hr1 hml q (ml - q) (by omega)
      rw [i5] at t2
      rw [i8] at t3
      rw [show (m.drop q).take (ml - q) = m.drop q from List.take_of_length_le (by rw [List.length_drop]; omega)] at t3
      have l1 : (m.take o).length = o := by rw [List.length_take]; omega
      have l2 : ((m.drop o).take (q - o)).length = q - o := by rw [List.length_take, List.length_drop]; omega
      have l3 : (m.drop q).length = ml - q := by rw [List.length_drop]; omega
      have : i = 0 ∨ i = 1 ∨ i = 2 ∨ i = 3 ∨ i = 4 ∨ 5 ≤ i := by omega
      rcases this with rfl | rfl | rfl | rfl | rfl | h5
      · cases hx; exact ⟨_, rfl, by rw [l1]; exact t1⟩
      · cases hx; exact ⟨_, rfl, Rd.nil _ _⟩
      · cases hx; exact ⟨_, rfl, by rw [l2]; exact t2⟩
      · cases hx; exact ⟨_, rfl, by rw [l3]; exact t3⟩
      · cases hx; exact ⟨_, rfl, hr2⟩
      · have : (L5 m n o q)[i]? = none := List.getElem?_eq_none (by simp [L5]; omega)
        rw [this] at hx; cases hx
    have HP2 : Hid (∀ w', Below w1.heap.size w1 w' → ∀ (i : Nat) (x : List UInt8), ([m, n] : List (List UInt8))[i]? = some x → ∃ u, [Value.slice ma ml mc, .slice na n.length nc][i]? = some u ∧ Rd w' 1 u x.length (bvs x)) := by
      refine Lib.hid fun w' hb i x hx => ?_
      have hr1 := hrm.fresh hb
      have hr2 := hrn.fresh hb
      rw [hml] at hr1
      have : i = 0 ∨ i = 1 ∨ 2 ≤ i := by omega
      rcases this with rfl | rfl | h5
      · cases hx; exact ⟨_, by rw [hml]; rfl, hr1⟩
      · cases hx; exact ⟨_, rfl, hr2⟩
      · have : ([m, n] : List (List UInt8))[i]? = none := List.getElem?_eq_none (by simp; omega)
        rw [this] at hx; cases hx
    clear hmn hZ hZl hrm hrn
    have HM := Lib.hid hm
    have HN := Lib.hid hn
    clear hm hn hml h0 h1 h2 hlc
    refine pl_start 33 rfl (fun _ => True) (by kernel_rfl) ?_
    refine pl_take (i := 0) 35 rfl rfl rfl (by kernel_rfl) (by kernel_rfl) (by kernel_rfl) (by simp [Act.put]) trivial ?_
    apply Exists.intro
    refine And.intro (fun w' _ => ?_) ?_
    · go_wp2
      exact ⟨trivial, rfl⟩
    refine pl_take (i := 1) 36 rfl rfl rfl (by kernel_rfl) (by kernel_rfl) (by kernel_rfl) (by simp [Act.put]) trivial ?_
    apply Exists.intro
    refine And.intro (fun w' _ => ?_) ?_
    · go_wp2
      exact ⟨trivial, rfl⟩
    refine pl_take (i := 2) 37 rfl rfl rfl (by kernel_rfl) (by kernel_rfl) (by kernel_rfl) (by simp [Act.put]) trivial ?_
    apply Exists.intro
    refine And.intro (fun w' _ => ?_) ?_
    · go_wp2
      exact ⟨trivial, rfl⟩
    refine pl_take (i := 3) 38 rfl rfl rfl (by kernel_rfl) (by kernel_rfl) (by kernel_rfl) (by simp [Act.put]) trivial ?_
    apply Exists.intro
    refine And.intro (fun w' _ => ?_) ?_
    · go_wp2
      exact ⟨trivial, rfl⟩
    refine pl_take (i := 4) 39 rfl rfl rfl (by kernel_rfl) (by kernel_rfl) (by kernel_rfl) (by simp [Act.put]) trivial ?_
    apply Exists.intro
    refine And.intro (fun w' _ => ?_) ?_
    · go_wp2
      exact ⟨trivial, rfl⟩
    refine pl_take (i := 5) 40 rfl rfl rfl (by kernel_rfl) (by kernel_rfl) (by kernel_rfl) (by simp [Act.put]) trivial ?_
    apply Exists.intro
    refine And.intro (fun w' _ => ?_) ?_
    · go_wp2
      exact ⟨trivial, rfl⟩
    refine pl_take (i := 6) 41 rfl rfl rfl (by kernel_rfl) (by kernel_rfl) (by kernel_rfl) (by simp [Act.put]) trivial ?_
    apply Exists.intro
    refine And.intro (fun w' _ => ?_) ?_
    · go_wp2
      exact ⟨trivial, rfl⟩
    refine pl_take (i := 7) 42 rfl rfl rfl (by kernel_rfl) (by kernel_rfl) (by kernel_rfl) (by simp [Act.put]) trivial ?_
    apply Exists.intro
    refine And.intro (fun w' _ => ?_) ?_
    · go_wp2
      exact ⟨trivial, rfl⟩
    refine pl_take (i := 8) 43 rfl rfl rfl (by kernel_rfl) (by kernel_rfl) (by kernel_rfl) (by simp [Act.put]) trivial ?_
    apply Exists.intro
    refine And.intro (fun w' _ => ?_) ?_
    · go_wp2
      exact ⟨trivial, rfl⟩
    refine pl_take (i := 9) 44 rfl rfl rfl (by kernel_rfl) (by kernel_rfl) (by kernel_rfl) (by simp [Act.put]) trivial ?_
    apply Exists.intro
    refine And.intro (fun w' _ => ?_) ?_
    · go_wp2
      exact ⟨trivial, rfl⟩
    refine pl_take (i := 10) 45 rfl rfl rfl (by kernel_rfl) (by kernel_rfl) (by kernel_rfl) (by simp [Act.put]) trivial ?_
    apply Exists.intro
    refine And.intro (fun w' _ => ?_) ?_
    · go_wp2
      exact ⟨trivial, rfl⟩
    refine pl_take (i := 11) 46 rfl rfl rfl (by kernel_rfl) (by kernel_rfl) (by kernel_rfl) (by simp [Act.put]) trivial ?_
    apply Exists.intro
    refine And.intro (fun w' _ => ?_) ?_
    · go_wp2
      exact ⟨trivial, rfl⟩
    refine pl_take (i := 12) 47 rfl rfl rfl (by kernel_rfl) (by kernel_rfl) (by kernel_rfl) (by simp [Act.put]) trivial ?_
    apply Exists.intro
    refine And.intro (fun w' _ => ?_) ?_
    · go_wp2
      exact ⟨trivial, rfl⟩
    refine pl_take (i := 13) 48 rfl rfl rfl (by kernel_rfl) (by kernel_rfl) (by kernel_rfl) (by simp [Act.put]) trivial ?_
    apply Exists.intro
    refine And.intro (fun w' _ => ?_) ?_
    · go_wp2
      exact ⟨trivial, rfl⟩
    refine pl_take (i := 14) 49 rfl rfl rfl (by kernel_rfl) (by kernel_rfl) (by kernel_rfl) (by simp [Act.put]) trivial ?_
    apply Exists.intro
    refine And.intro (fun w' _ => ?_) ?_
    · go_wp2
      exact ⟨trivial, rfl⟩
    refine pl_take (i := 15) 50 rfl rfl rfl (by kernel_rfl) (by kernel_rfl) (by kernel_rfl) (by simp [Act.put]) trivial ?_
    apply Exists.intro
    refine And.intro (fun w' _ => ?_) ?_
    · go_wp2
      exact ⟨trivial, rfl⟩
    refine pl_take (i := 16) 51 rfl rfl rfl (by kernel_rfl) (by kernel_rfl) (by kernel_rfl) (by simp [Act.put]) trivial ?_
    apply Exists.intro
    refine And.intro (fun w' _ => ?_) ?_
    · go_wp2
      exact ⟨trivial, rfl⟩
    refine pl_take (i := 17) 52 rfl rfl rfl (by kernel_rfl) (by kernel_rfl) (by kernel_rfl) (by simp [Act.put]) trivial ?_
    apply Exists.intro
    refine And.intro (fun w' _ => ?_) ?_
    · go_wp2
      exact ⟨trivial, rfl⟩
    refine pl_take (i := 18) 53 rfl rfl rfl (by kernel_rfl) (by kernel_rfl) (by kernel_rfl) (by simp [Act.put]) trivial ?_
    apply Exists.intro
    refine And.intro (fun w' _ => ?_) ?_
    · go_wp2
      exact ⟨trivial, rfl⟩
    refine pl_take (i := 19) 54 rfl rfl rfl (by kernel_rfl) (by kernel_rfl) (by kernel_rfl) (by simp [Act.put]) trivial ?_
    apply Exists.intro
    refine And.intro (fun w' _ => ?_) ?_
    · go_wp2
      exact ⟨trivial, rfl⟩
    refine pl_take (i := 20) 55 rfl rfl rfl (by kernel_rfl) (by kernel_rfl) (by kernel_rfl) (by simp [Act.put]) trivial ?_
    apply Exists.intro
    refine And.intro (fun w' _ => ?_) ?_
    · go_wp2
      exact ⟨trivial, rfl⟩
    refine pl_take (i := 21) 56 rfl rfl rfl (by kernel_rfl) (by kernel_rfl) (by kernel_rfl) (by simp [Act.put]) trivial ?_
    apply Exists.intro
    refine And.intro (fun w' _ => ?_) ?_
    · go_wp2
      exact ⟨trivial, rfl⟩
    refine pl_take (i := 22) 57 rfl rfl rfl (by kernel_rfl) (by kernel_rfl) (by kernel_rfl) (by simp [Act.put]) trivial ?_
    apply Exists.intro
    refine And.intro (fun w' _ => ?_) ?_
    · go_wp2
      exact ⟨trivial, rfl⟩
    refine pl_take (i := 23) 58 rfl rfl rfl (by kernel_rfl) (by kernel_rfl) (by kernel_rfl) (by simp [Act.put]) trivial ?_
    apply Exists.intro
    refine And.intro (fun w' _ => ?_) ?_
    · go_wp2
      exact ⟨trivial, rfl⟩
    refine pl_take (i := 24) 59 rfl rfl rfl (by kernel_rfl) (by kernel_rfl) (by kernel_rfl) (by simp [Act.put]) trivial ?_
    apply Exists.intro
    refine And.intro (fun w' _ => ?_) ?_
    · go_wp2
      exact ⟨trivial, rfl⟩
    refine pl_take (i := 27) 62 rfl rfl rfl (by kernel_rfl) (by kernel_rfl) (by kernel_rfl) (by simp [Act.put]) trivial ?_
    apply Exists.intro
    refine And.intro (fun w' _ => ?_) ?_
    · go_wp2
      exact ⟨trivial, rfl⟩
    refine pl_take (i := 28) 63 rfl rfl rfl (by kernel_rfl) (by kernel_rfl) (by kernel_rfl) (by simp [Act.put]) trivial ?_
    apply Exists.intro
    refine And.intro (fun w' _ => ?_) ?_
    · go_wp2
      exact ⟨trivial, rfl⟩
    refine pl_two (i := 25) (j := 29) rfl rfl (by kernel_rfl) ?_ ?_
    · skip
      go_wp2
      refine And.intro trivial ?_
      obtain ⟨wA, hwA, bwA, pwA⟩ : ∃ v, v = w1.drew.alloc (.cells ([Value.slice ma o mc, .slice none 0 0, .slice X5 (q - o) (mc - o), .slice X8 (ml - q) (mc - q), .slice na n.length nc]).toArray 25) ∧ Below w1.drew.heap.size w1.drew v ∧ Pts v (.slice (some ⟨w1.drew.heap.size, 0, none⟩) 5 5) (L5 m n o q) :=
        ⟨_, rfl, (Below.refl _ _).alloc (Nat.le_refl _) _, Pts.many w1.drew 25 [Value.slice ma o mc, .slice none 0 0, .slice X5 (q - o) (mc - o), .slice X8 (ml - q) (mc - q), .slice na n.length nc] (L5 m n o q) rfl (HP5.out w1.drew ((Below.refl w1.heap.size w1).drew)) (by simp [maxLen])⟩
      change wpAnyH _ _ _ _ _ _ _ _ (w1.drew.alloc (.cells ([Value.slice ma o mc, .slice none 0 0, .slice X5 (q - o) (mc - o), .slice X8 (ml - q) (mc - q), .slice na n.length nc]).toArray 25))
      rw [← hwA]
      have BwA : Hid (Below w1.heap.size w1 wA) := Lib.hid ((((Below.refl w1.heap.size w1).drew)).trans (bwA.mono ((((Below.refl w1.heap.size w1).drew))).size))
      have PwA := Lib.hid pwA
      clear hwA pwA
      refine pl_two (i := 26) (j := 29) rfl rfl (by kernel_rfl) ?_ ?_
      · skip
        go_wp2_with fail
        refine (HC5.out _ _ PwA.out).mono ?_
        rintro e wB ⟨rfl, hwB⟩
        have BwB : Hid (Below w1.heap.size w1 wB) := Lib.hid (BwA.out.trans (hwB.mono BwA.out.size))
        clear hwB
        go_wp2
        refine And.intro trivial ?_
        refine pl_heavy (i := 29) rfl (by kernel_rfl) ?_
        go_wp2
        refine And.intro trivial ?_
        obtain ⟨wC, hwC, bwC, pwC⟩ : ∃ v, v = wB.alloc (.cells ([Value.slice ma ml mc, .slice na n.length nc]).toArray 25) ∧ Below wB.heap.size wB v ∧ Pts v (.slice (some ⟨wB.heap.size, 0, none⟩) 2 2) [m, n] :=
          ⟨_, rfl, (Below.refl _ _).alloc (Nat.le_refl _) _, Pts.many wB 25 [Value.slice ma ml mc, .slice na n.length nc] [m, n] rfl (HP2.out wB BwB.out) (by simp [maxLen])⟩
        change wpAnyH _ _ _ _ _ _ _ _ (wB.alloc (.cells ([Value.slice ma ml mc, .slice na n.length nc]).toArray 25))
        rw [← hwC]
        have BwC : Hid (Below w1.heap.size w1 wC) := Lib.hid ((BwB.out).trans (bwC.mono ((BwB.out)).size))
        have PwC := Lib.hid pwC
        clear hwC pwC
        refine pl_heavy (i := 30) rfl (by kernel_rfl) ?_
        go_wp2_with fail
        refine (HC2.out _ _ PwC.out).mono ?_
        rintro e wD ⟨rfl, hwD⟩
        have BwD : Hid (Below w1.heap.size w1 wD) := Lib.hid (BwC.out.trans (hwD.mono BwC.out.size))
        clear hwD
        go_wp2
        refine And.intro trivial ?_
        refine pl_take (i := 31) 66 rfl rfl rfl (by kernel_rfl) (by kernel_rfl) (by kernel_rfl) (by simp [Act.put]) trivial ?_
        apply Exists.intro
        refine And.intro (fun w' _ => ?_) ?_
        · refine wpList_unguard' rfl ?_
          refine wpList_bin rfl .neq 30 30 (.tmp 61) (.tmp 65) rfl (.bool false) (eqGuard_agg _ _ _ _ _ _ _ (by kernel_rfl)) (hash_ne_self' w' Z HZL.out) ?_
          go_wp2
          exact ⟨trivial, rfl⟩
        refine pl_take (i := 32) 67 rfl rfl rfl (by kernel_rfl) (by kernel_rfl) (by kernel_rfl) (by simp [Act.put]) trivial ?_
        apply Exists.intro
        refine And.intro (fun w' _ => ?_) ?_
        · go_wp2
          exact ⟨trivial, rfl⟩
        refine pl_done (by kernel_rfl) ?_
        go_wp2
        go_meet
        exact ⟨rfl, HB1.out.trans (BwD.out.mono HB1.out.size)⟩
      · skip
        go_wp2
        refine And.intro trivial ?_
        obtain ⟨wB, hwB, bwB, pwB⟩ : ∃ v, v = wA.alloc (.cells ([Value.slice ma ml mc, .slice na n.length nc]).toArray 25) ∧ Below wA.heap.size wA v ∧ Pts v (.slice (some ⟨wA.heap.size, 0, none⟩) 2 2) [m, n] :=
          ⟨_, rfl, (Below.refl _ _).alloc (Nat.le_refl _) _, Pts.many wA 25 [Value.slice ma ml mc, .slice na n.length nc] [m, n] rfl (HP2.out wA BwA.out) (by simp [maxLen])⟩
        change wpAnyH _ _ _ _ _ _ _ _ (wA.alloc (.cells ([Value.slice ma ml mc, .slice na n.length nc]).toArray 25))
        rw [← hwB]
        have BwB : Hid (Below w1.heap.size w1 wB) := Lib.hid ((BwA.out).trans (bwB.mono ((BwA.out)).size))
        have PwB := Lib.hid pwB
        clear hwB pwB
        have PwA2 := Lib.hid (PwA.out.fresh bwB)
        refine pl_heavy (i := 26) rfl (by kernel_rfl) ?_
        go_wp2_with fail
        refine (HC5.out _ _ PwA2.out).mono ?_
        rintro e wC ⟨rfl, hwC⟩
        have BwC : Hid (Below w1.heap.size w1 wC) := Lib.hid (BwB.out.trans (hwC.mono BwB.out.size))
        have PwB2 := Lib.hid (PwB.out.fresh hwC)
        clear hwC
        go_wp2
        refine And.intro trivial ?_
        refine pl_heavy (i := 30) rfl (by kernel_rfl) ?_
        go_wp2_with fail
        refine (HC2.out _ _ PwB2.out).mono ?_
        rintro e wD ⟨rfl, hwD⟩
        have BwD : Hid (Below w1.heap.size w1 wD) := Lib.hid (BwC.out.trans (hwD.mono BwC.out.size))
        clear hwD
        go_wp2
        refine And.intro trivial ?_
        refine pl_take (i := 31) 66 rfl rfl rfl (by kernel_rfl) (by kernel_rfl) (by kernel_rfl) (by simp [Act.put]) trivial ?_
        apply Exists.intro
        refine And.intro (fun w' _ => ?_) ?_
        · refine wpList_unguard' rfl ?_
          refine wpList_bin rfl .neq 30 30 (.tmp 61) (.tmp 65) rfl (.bool false) (eqGuard_agg _ _ _ _ _ _ _ (by kernel_rfl)) (hash_ne_self' w' Z HZL.out) ?_
          go_wp2
          exact ⟨trivial, rfl⟩
        refine pl_take (i := 32) 67 rfl rfl rfl (by kernel_rfl) (by kernel_rfl) (by kernel_rfl) (by simp [Act.put]) trivial ?_
        apply Exists.intro
        refine And.intro (fun w' _ => ?_) ?_
        · go_wp2
          exact ⟨trivial, rfl⟩
        refine pl_done (by kernel_rfl) ?_
        go_wp2
        go_meet
        exact ⟨rfl, HB1.out.trans (BwD.out.mono HB1.out.size)⟩
    · skip
      go_wp2
      refine And.intro trivial ?_
      obtain ⟨wA, hwA, bwA, pwA⟩ : ∃ v, v = w1.drew.alloc (.cells ([Value.slice ma ml mc, .slice na n.length nc]).toArray 25) ∧ Below w1.drew.heap.size w1.drew v ∧ Pts v (.slice (some ⟨w1.drew.heap.size, 0, none⟩) 2 2) [m, n] :=
        ⟨_, rfl, (Below.refl _ _).alloc (Nat.le_refl _) _, Pts.many w1.drew 25 [Value.slice ma ml mc, .slice na n.length nc] [m, n] rfl (HP2.out w1.drew ((Below.refl w1.heap.size w1).drew)) (by simp [maxLen])⟩
      change wpAnyH _ _ _ _ _ _ _ _ (w1.drew.alloc (.cells ([Value.slice ma ml mc, .slice na n.length nc]).toArray 25))
      rw [← hwA]
      have BwA : Hid (Below w1.heap.size w1 wA) := Lib.hid ((((Below.refl w1.heap.size w1).drew)).trans (bwA.mono ((((Below.refl w1.heap.size w1).drew))).size))
      have PwA := Lib.hid pwA
      clear hwA pwA
      refine pl_heavy (i := 25) rfl (by kernel_rfl) ?_
      go_wp2
      refine And.intro trivial ?_
      obtain ⟨wB, hwB, bwB, pwB⟩ : ∃ v, v = wA.alloc (.cells ([Value.slice ma o mc, .slice none 0 0, .slice X5 (q - o) (mc - o), .slice X8 (ml - q) (mc - q), .slice na n.length nc]).toArray 25) ∧ Below wA.heap.size wA v ∧ Pts v (.slice (some ⟨wA.heap.size, 0, none⟩) 5 5) (L5 m n o q) :=
        ⟨_, rfl, (Below.refl _ _).alloc (Nat.le_refl _) _, Pts.many wA 25 [Value.slice ma o mc, .slice none 0 0, .slice X5 (q - o) (mc - o), .slice X8 (ml - q) (mc - q), .slice na n.length nc] (L5 m n o q) rfl (HP5.out wA BwA.out) (by simp [maxLen])⟩
      change wpAnyH _ _ _ _ _ _ _ _ (wA.alloc (.cells ([Value.slice ma o mc, .slice none 0 0, .slice X5 (q - o) (mc - o), .slice X8 (ml - q) (mc - q), .slice na n.length nc]).toArray 25))
      rw [← hwB]
      have BwB : Hid (Below w1.heap.size w1 wB) := Lib.hid ((BwA.out).trans (bwB.mono ((BwA.out)).size))
      have PwB := Lib.hid pwB
      clear hwB pwB
      have PwA2 := Lib.hid (PwA.out.fresh bwB)
      refine pl_heavy (i := 26) rfl (by kernel_rfl) ?_
      go_wp2_with fail
      refine (HC5.out _ _ PwB.out).mono ?_
      rintro e wC ⟨rfl, hwC⟩
      have BwC : Hid (Below w1.heap.size w1 wC) := Lib.hid (BwB.out.trans (hwC.mono BwB.out.size))
      have PwA3 := Lib.hid (PwA2.out.fresh hwC)
      clear hwC
      go_wp2
      refine And.intro trivial ?_
      refine pl_heavy (i := 30) rfl (by kernel_rfl) ?_
      go_wp2_with fail
      refine (HC2.out _ _ PwA3.out).mono ?_
      rintro e wD ⟨rfl, hwD⟩
      have BwD : Hid (Below w1.heap.size w1 wD) := Lib.hid (BwC.out.trans (hwD.mono BwC.out.size))
      clear hwD
      go_wp2
      refine And.intro trivial ?_
      refine pl_take (i := 31) 66 rfl rfl rfl (by kernel_rfl) (by kernel_rfl) (by kernel_rfl) (by simp [Act.put]) trivial ?_
      apply Exists.intro
      refine And.intro (fun w' _ => ?_) ?_
      · refine wpList_unguard' rfl ?_
        refine wpList_bin rfl .neq 30 30 (.tmp 61) (.tmp 65) rfl (.bool false) (eqGuard_agg _ _ _ _ _ _ _ (by kernel_rfl)) (hash_ne_self' w' Z HZL.out) ?_
        go_wp2
        exact ⟨trivial, rfl⟩
      refine pl_take (i := 32) 67 rfl rfl rfl (by kernel_rfl) (by kernel_rfl) (by kernel_rfl) (by simp [Act.put]) trivial ?_
      apply Exists.intro
      refine And.intro (fun w' _ => ?_) ?_
      · go_wp2
        exact ⟨trivial, rfl⟩
      refine pl_done (by kernel_rfl) ?_
      go_wp2
      go_meet
      exact ⟨rfl, HB1.out.trans (BwD.out.mono HB1.out.size)⟩
  case rest =>
    obtain ⟨rfl, hb⟩ := hcut
    have HM := Lib.hid (hm.fresh hb)
    have HN := Lib.hid (hn.fresh hb)
    have HBC := Lib.hid hb
    clear hb hm hn
    go_wp2_with fail
    refine (HT1.out wc HM.out).mono ?_
    rintro e w6 ⟨v6, rfl, hr6, hb6⟩
    obtain ⟨a6, c6, rfl⟩ := hr6.slice
    have HM6 := Lib.hid (HM.out.fresh hb6)
    have HN6 := Lib.hid (HN.out.fresh hb6)
    have HA6 := Lib.hid hr6
    have HB6 := Lib.hid (HBC.out.trans (hb6.mono HBC.out.size))
    clear hr6 hb6 HM HN HBC
    go_wp2_with fail
    refine (HT2.out w6 HN6.out).mono ?_
    rintro e w7 ⟨v7, rfl, hr7, hb7⟩
    obtain ⟨a7, c7, rfl⟩ := hr7.slice
    have HM7 := Lib.hid (HM6.out.fresh hb7)
    have HN7 := Lib.hid (HN6.out.fresh hb7)
    have HA7 := Lib.hid (HA6.out.fresh hb7)
    have HBB7 := Lib.hid hr7
    have HB7 := Lib.hid (HB6.out.trans (hb7.mono HB6.out.size))
    clear hr7 hb7 HM6 HN6 HA6 HB6
    go_upto_region 8 with fail
    go_cut [89] from 74 to 89 (fun v89 wx => v89 = .bool false ∧ w7 = wx)
    case first =>
      have hcA := HA7.out.conv (P := Try.prog) 25 9 5 Try.underlying25 Try.underlying5 Try.underlying9
      have hcB := HBB7.out.conv (P := Try.prog) 25 9 5 Try.underlying25 Try.underlying5 Try.underlying9
      have hm7 := HM7.out
      rw [HML.out] at hm7
      have hcM := hm7.conv (P := Try.prog) 25 9 5 Try.underlying25 Try.underlying5 Try.underlying9
      rw [← HML.out] at hcM
      have hcN := HN7.out.conv (P := Try.prog) 25 9 5 Try.underlying25 Try.underlying5 Try.underlying9
      obtain ⟨fAB, fST, fMN⟩ := HF.out
      clear hm7
      generalize (⟨A.toArray⟩ : ByteArray) = SA at *
      generalize (⟨B.toArray⟩ : ByteArray) = SB at *
      generalize (⟨m.toArray⟩ : ByteArray) = SM at *
      generalize (⟨n.toArray⟩ : ByteArray) = SN at *
      cases b1 <;> cases b2 <;> simp only [Bool.and_true, Bool.and_false, Bool.true_and, Bool.false_and] at fAB
      all_goals
        go_wp2
        go_meet
        exact ⟨by simp, rfl⟩
    case rest =>
      obtain ⟨rfl, rfl⟩ := hcut
      go_wp2_with fail
      refine pl_start 16 rfl (fun _ => True) (by kernel_rfl) ?_
      refine pl_take (i := 0) 90 rfl rfl rfl (by kernel_rfl) (by kernel_rfl) (by kernel_rfl) (by simp [Act.put]) trivial ?_
      apply Exists.intro
      refine And.intro (fun w' _ => ?_) ?_
      · go_wp2
        exact ⟨trivial, rfl⟩
      refine pl_take (i := 1) 91 rfl rfl rfl (by kernel_rfl) (by kernel_rfl) (by kernel_rfl) (by simp [Act.put]) trivial ?_
      apply Exists.intro
      refine And.intro (fun w' _ => ?_) ?_
      · go_wp2
        exact ⟨trivial, rfl⟩
      refine pl_take (i := 4) 94 rfl rfl rfl (by kernel_rfl) (by kernel_rfl) (by kernel_rfl) (by simp [Act.put]) trivial ?_
      apply Exists.intro
      refine And.intro (fun w' _ => ?_) ?_
      · go_wp2
        exact ⟨trivial, rfl⟩
      refine pl_take (i := 5) 95 rfl rfl rfl (by kernel_rfl) (by kernel_rfl) (by kernel_rfl) (by simp [Act.put]) trivial ?_
      apply Exists.intro
      refine And.intro (fun w' _ => ?_) ?_
      · go_wp2
        exact ⟨trivial, rfl⟩
      refine pl_take (i := 9) 99 rfl rfl rfl (by kernel_rfl) (by kernel_rfl) (by kernel_rfl) (by simp [Act.put]) trivial ?_
      apply Exists.intro
      refine And.intro (fun w' _ => ?_) ?_
      · go_wp2
        exact ⟨trivial, rfl⟩
      refine pl_take (i := 11) 101 rfl rfl rfl (by kernel_rfl) (by kernel_rfl) (by kernel_rfl) (by simp [Act.put]) trivial ?_
      apply Exists.intro
      refine And.intro (fun w' _ => ?_) ?_
      · go_wp2
        exact ⟨trivial, rfl⟩
      refine pl_two (i := 2) (j := 6) rfl rfl (by kernel_rfl) ?_ ?_
      · skip
        go_wp2
        refine And.intro trivial ?_
        obtain ⟨wA, hwA, bwA, pwA⟩ : ∃ v, v = w7.drew.alloc (.cells #[.slice ma ml mc] 25) ∧ Below w7.drew.heap.size w7.drew v ∧ Pts v (.slice (some ⟨w7.drew.heap.size, 0, none⟩) 1 1) [m] :=
          ⟨_, rfl, (Below.refl _ _).alloc (Nat.le_refl _) _, Pts.one w7.drew 25 _ m (by rw [← HML.out]; exact HM7.out.fresh (((Below.refl w7.heap.size w7).drew)))⟩
        change wpAnyH _ _ _ _ _ _ _ _ (w7.drew.alloc (.cells #[.slice ma ml mc] 25))
        rw [← hwA]
        have BwA : Hid (Below w7.heap.size w7 wA) := Lib.hid ((((Below.refl w7.heap.size w7).drew)).trans (bwA.mono ((((Below.refl w7.heap.size w7).drew))).size))
        have PwA := Lib.hid pwA
        clear hwA pwA
        refine pl_two (i := 3) (j := 6) rfl rfl (by kernel_rfl) ?_ ?_
        · skip
          go_wp2_with fail
          refine (HG1.out _ _ PwA.out).mono ?_
          rintro e wB ⟨rfl, hwB⟩
          have BwB : Hid (Below w7.heap.size w7 wB) := Lib.hid (BwA.out.trans (hwB.mono BwA.out.size))
          
          clear hwB
          go_wp2
          refine And.intro trivial ?_
          refine pl_heavy (i := 6) rfl (by kernel_rfl) ?_
          go_wp2
          refine And.intro trivial ?_
          obtain ⟨wC, hwC, bwC, pwC⟩ : ∃ v, v = wB.alloc (.cells #[.slice na n.length nc] 25) ∧ Below wB.heap.size wB v ∧ Pts v (.slice (some ⟨wB.heap.size, 0, none⟩) 1 1) [n] :=
            ⟨_, rfl, (Below.refl _ _).alloc (Nat.le_refl _) _, Pts.one wB 25 _ n (HN7.out.fresh (BwB.out))⟩
          change wpAnyH _ _ _ _ _ _ _ _ (wB.alloc (.cells #[.slice na n.length nc] 25))
          rw [← hwC]
          have BwC : Hid (Below w7.heap.size w7 wC) := Lib.hid ((BwB.out).trans (bwC.mono ((BwB.out)).size))
          have PwC := Lib.hid pwC
          clear hwC pwC
          refine pl_heavy (i := 7) rfl (by kernel_rfl) ?_
          go_wp2_with fail
          refine (HG2.out _ _ PwC.out).mono ?_
          rintro e wD ⟨rfl, hwD⟩
          have BwD : Hid (Below w7.heap.size w7 wD) := Lib.hid (BwC.out.trans (hwD.mono BwC.out.size))
          
          clear hwD
          go_wp2
          refine And.intro trivial ?_
          refine pl_take (i := 8) 98 rfl rfl rfl (by kernel_rfl) (by kernel_rfl) (by kernel_rfl) (by simp [Act.put]) trivial ?_
          apply Exists.intro
          refine And.intro (fun w' _ => ?_) ?_
          · refine wpList_bin rfl .eql 30 30 (.tmp 93) (.tmp 97) rfl (.bool bb) (eqGuard_agg _ _ _ _ _ _ _ (by kernel_rfl)) (HEQ.out w') ?_
            go_wp2
            exact ⟨trivial, rfl⟩
          refine pl_heavy (i := 10) rfl (by kernel_rfl) ?_
          go_wp2_with fail
          refine (HR1.out _ _ (HA7.out.fresh BwD.out)).mono ?_
          rintro e wE ⟨rfl, hwE⟩
          have BwE : Hid (Below w7.heap.size w7 wE) := Lib.hid (BwD.out.trans (hwE.mono BwD.out.size))
          
          clear hwE
          go_wp2
          refine And.intro trivial ?_
          refine pl_heavy (i := 12) rfl (by kernel_rfl) ?_
          go_wp2_with fail
          refine (HR2.out _ _ (HBB7.out.fresh BwE.out)).mono ?_
          rintro e wF ⟨rfl, hwF⟩
          have BwF : Hid (Below w7.heap.size w7 wF) := Lib.hid (BwE.out.trans (hwF.mono BwE.out.size))
          
          clear hwF
          go_wp2
          refine And.intro trivial ?_
          refine pl_take (i := 13) 103 rfl rfl rfl (by kernel_rfl) (by kernel_rfl) (by kernel_rfl) (by simp [Act.put]) trivial ?_
          apply Exists.intro
          refine And.intro (fun w' _ => ?_) ?_
          · refine wpList_bin rfl .eql 30 30 (.tmp 100) (.tmp 102) rfl (.bool bb) (eqGuard_agg _ _ _ _ _ _ _ (by kernel_rfl)) (HEQ.out w') ?_
            go_wp2
            exact ⟨trivial, rfl⟩
          refine pl_take (i := 14) 104 rfl rfl rfl (by kernel_rfl) (by kernel_rfl) (by kernel_rfl) (by simp [Act.put]) trivial ?_
          apply Exists.intro
          refine And.intro (fun w' _ => ?_) ?_
          · go_wp2
            exact ⟨trivial, rfl⟩
          refine pl_take (i := 15) 12 rfl rfl rfl (by kernel_rfl) (by kernel_rfl) (by kernel_rfl) (by simp [Act.put]) trivial ?_
          apply Exists.intro
          refine And.intro (fun w' _ => ?_) ?_
          · go_wp2
            exact ⟨trivial, rfl⟩
          refine pl_done (by kernel_rfl) ?_
          go_wp2
          go_ret
          exact ⟨by simp, HB7.out.trans (BwF.out.mono HB7.out.size)⟩
        · skip
          go_wp2
          refine And.intro trivial ?_
          obtain ⟨wB, hwB, bwB, pwB⟩ : ∃ v, v = wA.alloc (.cells #[.slice na n.length nc] 25) ∧ Below wA.heap.size wA v ∧ Pts v (.slice (some ⟨wA.heap.size, 0, none⟩) 1 1) [n] :=
            ⟨_, rfl, (Below.refl _ _).alloc (Nat.le_refl _) _, Pts.one wA 25 _ n (HN7.out.fresh (BwA.out))⟩
          change wpAnyH _ _ _ _ _ _ _ _ (wA.alloc (.cells #[.slice na n.length nc] 25))
          rw [← hwB]
          have BwB : Hid (Below w7.heap.size w7 wB) := Lib.hid ((BwA.out).trans (bwB.mono ((BwA.out)).size))
          have PwB := Lib.hid pwB
          clear hwB pwB
          have PwA2 := Lib.hid (PwA.out.fresh bwB)
          refine pl_heavy (i := 3) rfl (by kernel_rfl) ?_
          go_wp2_with fail
          refine (HG1.out _ _ PwA2.out).mono ?_
          rintro e wC ⟨rfl, hwC⟩
          have BwC : Hid (Below w7.heap.size w7 wC) := Lib.hid (BwB.out.trans (hwC.mono BwB.out.size))
          have PwB2 := Lib.hid (PwB.out.fresh hwC)
          clear hwC
          go_wp2
          refine And.intro trivial ?_
          refine pl_heavy (i := 7) rfl (by kernel_rfl) ?_
          go_wp2_with fail
          refine (HG2.out _ _ PwB2.out).mono ?_
          rintro e wD ⟨rfl, hwD⟩
          have BwD : Hid (Below w7.heap.size w7 wD) := Lib.hid (BwC.out.trans (hwD.mono BwC.out.size))
          
          clear hwD
          go_wp2
          refine And.intro trivial ?_
          refine pl_take (i := 8) 98 rfl rfl rfl (by kernel_rfl) (by kernel_rfl) (by kernel_rfl) (by simp [Act.put]) trivial ?_
          apply Exists.intro
          refine And.intro (fun w' _ => ?_) ?_
          · refine wpList_bin rfl .eql 30 30 (.tmp 93) (.tmp 97) rfl (.bool bb) (eqGuard_agg _ _ _ _ _ _ _ (by kernel_rfl)) (HEQ.out w') ?_
            go_wp2
            exact ⟨trivial, rfl⟩
          refine pl_heavy (i := 10) rfl (by kernel_rfl) ?_
          go_wp2_with fail
          refine (HR1.out _ _ (HA7.out.fresh BwD.out)).mono ?_
          rintro e wE ⟨rfl, hwE⟩
          have BwE : Hid (Below w7.heap.size w7 wE) := Lib.hid (BwD.out.trans (hwE.mono BwD.out.size))
          
          clear hwE
          go_wp2
          refine And.intro trivial ?_
          refine pl_heavy (i := 12) rfl (by kernel_rfl) ?_
          go_wp2_with fail
          refine (HR2.out _ _ (HBB7.out.fresh BwE.out)).mono ?_
          rintro e wF ⟨rfl, hwF⟩
          have BwF : Hid (Below w7.heap.size w7 wF) := Lib.hid (BwE.out.trans (hwF.mono BwE.out.size))
          
          clear hwF
          go_wp2
          refine And.intro trivial ?_
          refine pl_take (i := 13) 103 rfl rfl rfl (by kernel_rfl) (by kernel_rfl) (by kernel_rfl) (by simp [Act.put]) trivial ?_
          apply Exists.intro
          refine And.intro (fun w' _ => ?_) ?_
          · refine wpList_bin rfl .eql 30 30 (.tmp 100) (.tmp 102) rfl (.bool bb) (eqGuard_agg _ _ _ _ _ _ _ (by kernel_rfl)) (HEQ.out w') ?_
            go_wp2
            exact ⟨trivial, rfl⟩
          refine pl_take (i := 14) 104 rfl rfl rfl (by kernel_rfl) (by kernel_rfl) (by kernel_rfl) (by simp [Act.put]) trivial ?_
          apply Exists.intro
          refine And.intro (fun w' _ => ?_) ?_
          · go_wp2
            exact ⟨trivial, rfl⟩
          refine pl_take (i := 15) 12 rfl rfl rfl (by kernel_rfl) (by kernel_rfl) (by kernel_rfl) (by simp [Act.put]) trivial ?_
          apply Exists.intro
          refine And.intro (fun w' _ => ?_) ?_
          · go_wp2
            exact ⟨trivial, rfl⟩
          refine pl_done (by kernel_rfl) ?_
          go_wp2
          go_ret
          exact ⟨by simp, HB7.out.trans (BwF.out.mono HB7.out.size)⟩
      · skip
        go_wp2
        refine And.intro trivial ?_
        obtain ⟨wA, hwA, bwA, pwA⟩ : ∃ v, v = w7.drew.alloc (.cells #[.slice na n.length nc] 25) ∧ Below w7.drew.heap.size w7.drew v ∧ Pts v (.slice (some ⟨w7.drew.heap.size, 0, none⟩) 1 1) [n] :=
          ⟨_, rfl, (Below.refl _ _).alloc (Nat.le_refl _) _, Pts.one w7.drew 25 _ n (HN7.out.fresh (((Below.refl w7.heap.size w7).drew)))⟩
        change wpAnyH _ _ _ _ _ _ _ _ (w7.drew.alloc (.cells #[.slice na n.length nc] 25))
        rw [← hwA]
        have BwA : Hid (Below w7.heap.size w7 wA) := Lib.hid ((((Below.refl w7.heap.size w7).drew)).trans (bwA.mono ((((Below.refl w7.heap.size w7).drew))).size))
        have PwA := Lib.hid pwA
        clear hwA pwA
        refine pl_heavy (i := 2) rfl (by kernel_rfl) ?_
        go_wp2
        refine And.intro trivial ?_
        obtain ⟨wB, hwB, bwB, pwB⟩ : ∃ v, v = wA.alloc (.cells #[.slice ma ml mc] 25) ∧ Below wA.heap.size wA v ∧ Pts v (.slice (some ⟨wA.heap.size, 0, none⟩) 1 1) [m] :=
          ⟨_, rfl, (Below.refl _ _).alloc (Nat.le_refl _) _, Pts.one wA 25 _ m (by rw [← HML.out]; exact HM7.out.fresh (BwA.out))⟩
        change wpAnyH _ _ _ _ _ _ _ _ (wA.alloc (.cells #[.slice ma ml mc] 25))
        rw [← hwB]
        have BwB : Hid (Below w7.heap.size w7 wB) := Lib.hid ((BwA.out).trans (bwB.mono ((BwA.out)).size))
        have PwB := Lib.hid pwB
        clear hwB pwB
        have PwA2 := Lib.hid (PwA.out.fresh bwB)
        refine pl_heavy (i := 3) rfl (by kernel_rfl) ?_
        go_wp2_with fail
        refine (HG1.out _ _ PwB.out).mono ?_
        rintro e wC ⟨rfl, hwC⟩
        have BwC : Hid (Below w7.heap.size w7 wC) := Lib.hid (BwB.out.trans (hwC.mono BwB.out.size))
        have PwA3 := Lib.hid (PwA2.out.fresh hwC)
        clear hwC
        go_wp2
        refine And.intro trivial ?_
        refine pl_heavy (i := 7) rfl (by kernel_rfl) ?_
        go_wp2_with fail
        refine (HG2.out _ _ PwA3.out).mono ?_
        rintro e wD ⟨rfl, hwD⟩
        have BwD : Hid (Below w7.heap.size w7 wD) := Lib.hid (BwC.out.trans (hwD.mono BwC.out.size))
        
        clear hwD
        go_wp2
        refine And.intro trivial ?_
        refine pl_take (i := 8) 98 rfl rfl rfl (by kernel_rfl) (by kernel_rfl) (by kernel_rfl) (by simp [Act.put]) trivial ?_
        apply Exists.intro
        refine And.intro (fun w' _ => ?_) ?_
        · refine wpList_bin rfl .eql 30 30 (.tmp 93) (.tmp 97) rfl (.bool bb) (eqGuard_agg _ _ _ _ _ _ _ (by kernel_rfl)) (HEQ.out w') ?_
          go_wp2
          exact ⟨trivial, rfl⟩
        refine pl_heavy (i := 10) rfl (by kernel_rfl) ?_
        go_wp2_with fail
        refine (HR1.out _ _ (HA7.out.fresh BwD.out)).mono ?_
        rintro e wE ⟨rfl, hwE⟩
        have BwE : Hid (Below w7.heap.size w7 wE) := Lib.hid (BwD.out.trans (hwE.mono BwD.out.size))
        
        clear hwE
        go_wp2
        refine And.intro trivial ?_
        refine pl_heavy (i := 12) rfl (by kernel_rfl) ?_
        go_wp2_with fail
        refine (HR2.out _ _ (HBB7.out.fresh BwE.out)).mono ?_
        rintro e wF ⟨rfl, hwF⟩
        have BwF : Hid (Below w7.heap.size w7 wF) := Lib.hid (BwE.out.trans (hwF.mono BwE.out.size))
        
        clear hwF
        go_wp2
        refine And.intro trivial ?_
        refine pl_take (i := 13) 103 rfl rfl rfl (by kernel_rfl) (by kernel_rfl) (by kernel_rfl) (by simp [Act.put]) trivial ?_
        apply Exists.intro
        refine And.intro (fun w' _ => ?_) ?_
        · refine wpList_bin rfl .eql 30 30 (.tmp 100) (.tmp 102) rfl (.bool bb) (eqGuard_agg _ _ _ _ _ _ _ (by kernel_rfl)) (HEQ.out w') ?_
          go_wp2
          exact ⟨trivial, rfl⟩
        refine pl_take (i := 14) 104 rfl rfl rfl (by kernel_rfl) (by kernel_rfl) (by kernel_rfl) (by simp [Act.put]) trivial ?_
        apply Exists.intro
        refine And.intro (fun w' _ => ?_) ?_
        · go_wp2
          exact ⟨trivial, rfl⟩
        refine pl_take (i := 15) 12 rfl rfl rfl (by kernel_rfl) (by kernel_rfl) (by kernel_rfl) (by simp [Act.put]) trivial ?_
        apply Exists.intro
        refine And.intro (fun w' _ => ?_) ?_
        · go_wp2
          exact ⟨trivial, rfl⟩
        refine pl_done (by kernel_rfl) ?_
        go_wp2
        go_ret
        exact ⟨by simp, HB7.out.trans (BwF.out.mono HB7.out.size)⟩
end Go.Proofs.Ytdljpgihfjpnjaa
