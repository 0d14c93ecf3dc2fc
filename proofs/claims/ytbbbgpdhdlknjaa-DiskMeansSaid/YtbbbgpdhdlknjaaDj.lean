/- Disks: a new disk; Sync: the walks. What holds of a disk. -/
import Derived.Test.YtbbbgpdhdlknjaaDi
namespace Go.Proofs.Ytbbbgpdhdlknjaa
set_option linter.unusedVariables false
set_option linter.unusedSimpArgs false
open Go.RowKit Go.Lib

def newK : Dk := ⟨List.replicate 16 [], List.replicate 16 [], [], 0, false, false⟩
def noLogs : List Value := List.replicate 16 (.slice none 0 0)

theorem Lg.none [Inhabited (Option Nat)] (w : World) : Lg w noLogs (List.replicate 16 []) := by
  refine ⟨rfl, rfl, fun i v b hv hb => ?_⟩
  rw [noLogs, List.getElem?_replicate] at hv
  rw [List.getElem?_replicate] at hb
  split at hv
  · rename_i hi
    rw [if_pos hi] at hb
    cases hv; cases hb
    exact RdU.nil w
  · cases hv

set_option maxRecDepth 100000 in
set_option maxHeartbeats 1000000 in
theorem new_any [Inhabited (Option Nat)] (w : World) : Calls Try.prog 9 #[] w fun e w' => e = .returned (.pointer (some ⟨w.heap.size + 1, 0, none⟩)) ∧ DkAt w' (w.heap.size + 1) w.heap.size (.slice none 0 0) newK ∧ Below w.heap.size w w' ∧ w'.heap.size = w.heap.size + 2 := by
  go_enter Try.func9, Try.ntmps9
  go_wp2
  obtain ⟨w1, h1, k1, b1, s1⟩ := alloc_cb w 62 noLogs
  obtain ⟨w2, h2, k2, b2, s2⟩ := alloc_cb w1 65 (dkC w.heap.size noLogs (.slice none 0 0) 0 false false)
  have h2' : w2 = (w.alloc (.cells noLogs.toArray 62)).alloc (.cells (dkC w.heap.size noLogs (.slice none 0 0) 0 false false).toArray 65) := by rw [h2, h1]
  go_ret
  change _ ∧ DkAt ((w.alloc (.cells noLogs.toArray 62)).alloc (.cells (dkC w.heap.size noLogs (.slice none 0 0) 0 false false).toArray 65)) _ _ _ _ ∧ Below w.heap.size w ((w.alloc (.cells noLogs.toArray 62)).alloc (.cells (dkC w.heap.size noLogs (.slice none 0 0) 0 false false).toArray 65)) ∧ ((w.alloc (.cells noLogs.toArray 62)).alloc (.cells (dkC w.heap.size noLogs (.slice none 0 0) 0 false false).toArray 65)).heap.size = _
  rw [← h2']
  rw [s1] at k2
  refine ⟨rfl, ⟨noLogs, noLogs, [], k2, k1.fresh b2, Lg.none _, Lg.none _, VwS.nil _ _ _, rfl, fun i x cs hx _ => by simp [newK] at hx⟩, b1.tr b2, by rw [s2, s1]⟩

/-- What Sync answers, and the disk behind it. -/
def syncK (k : Dk) : Int × Dk := if (burnK k).1 = 0 then (0, settleK (burnK k).2 k.wait.length) else burnK k

theorem burnK_wait (k : Dk) : (burnK k).2.wait = k.wait ∧ (burnK k).2.set = k.set ∧ (burnK k).2.now = k.now := by
  unfold burnK
  split
  · exact ⟨rfl, rfl, rfl⟩
  · split
    · split <;> exact ⟨rfl, rfl, rfl⟩
    · exact ⟨rfl, rfl, rfl⟩

set_option maxRecDepth 100000 in
set_option maxHeartbeats 1000000 in
theorem sync_any [Inhabited (Option Nat)] (w : World) (D S : Nat) (wv : Value) (k : Dk) (h : DkAt w D S wv k) (hf : 0 ≤ k.fuse) (hf' : k.fuse ≤ 9223372036854775807) (hw : k.wait.length ≤ 1000000) (hl : ∀ j, ∀ l ∈ (k.wait.take j).foldl app k.set, l.length ≤ 16777216) (hav : Av w.heap.size) :
    Calls Try.prog 29 #[.pointer (some ⟨D, 0, none⟩)] w fun e w' => e = .returned (.int .i64 (syncK k).1) ∧ ∃ wv', DkAt w' D S wv' (syncK k).2 ∧ Mv D S wv w w' ∧ Grew w wv wv' := by
  have T := Lib.hid (there_any w D S wv k h)
  have BU := Lib.hid (burn_any w D S wv k h hf hf')
  have HW := Lib.hid (And.intro hw hl)
  have AV := Lib.hid hav
  clear h hf hf' hw hl hav
  obtain ⟨q1, q2, q3⟩ := burnK_wait k
  by_cases h0 : (burnK k).1 = 0
  · have e1 : Hid (syncK k = (0, settleK (burnK k).2 k.wait.length)) := Lib.hid (by rw [syncK, if_pos h0])
    rw [h0] at BU
    obtain ⟨k2, hk2⟩ : ∃ k2, k2 = (burnK k).2 := ⟨_, rfl⟩
    rw [← hk2] at q1 q2 q3 BU e1
    have Q := Lib.hid (And.intro q1 (And.intro q2 q3))
    clear h0 hk2 q1 q2 q3
    go_enter Try.func29, Try.ntmps29
    go_wp2_with fail
    refine (T.out).mono ?_
    rintro e w1 ⟨rfl, rfl⟩
    go_wp2_with fail
    refine (BU.out).mono ?_
    rintro e w2 ⟨rfl, d2, m2⟩
    obtain ⟨vs, ns, css, hd⟩ := d2
    have hc17 := hd.cd.cell 17 _ (dkC_tail hd.ln.1 0)
    have ST := Lib.hid (settle_any w2 D S wv k2 ⟨vs, ns, css, hd⟩ k2.wait.length (Nat.le_refl _) (by rw [Q.out.1]; exact HW.out.1) (by rw [Q.out.1, Q.out.2.1]; exact HW.out.2) (AV.out.mono m2.size))
    obtain ⟨av, cv, rfl⟩ := hd.wt.slice
    have M2 := Lib.hid m2
    clear hd m2
    go_wp2_with fail
    refine ST.out.mono ?_
    rintro e w3 ⟨rfl, wv3, d3, m3, g3⟩
    have D3 := Lib.hid (And.intro d3 (And.intro m3 g3))
    clear d3 m3 g3 hc17
    go_wp2
    go_ret
    rw [e1.out]
    refine ⟨rfl, wv3, ?_, M2.out.tr' D3.out.2.1, fun j hj => (D3.out.2.2 j hj).imp id (fun h => Nat.le_trans M2.out.size h)⟩
    have := D3.out.1
    rw [Q.out.1] at this
    exact this
  · have e1 : Hid (syncK k = burnK k) := Lib.hid (by rw [syncK, if_neg h0])
    obtain ⟨r, hr⟩ : ∃ r, r = (burnK k).1 := ⟨_, rfl⟩
    have HR := Lib.hid hr
    rw [← hr] at h0 BU
    clear hr q1 q2 q3
    go_enter Try.func29, Try.ntmps29
    go_wp2_with fail
    refine (T.out).mono ?_
    rintro e w1 ⟨rfl, rfl⟩
    go_wp2_with fail
    refine (BU.out).mono ?_
    rintro e w2 ⟨rfl, d2, m2⟩
    have D2 := Lib.hid (And.intro d2 m2)
    clear d2 m2
    go_wp2
    go_ret
    rw [e1.out]
    exact ⟨by rw [HR.out]; rfl, wv, D2.out.1, D2.out.2, fun j hj => .inl hj⟩

/-- What holds of a disk. -/
structure Ok (k : Dk) : Prop where
  sl : k.set.length = 16
  now : k.now = k.wait.foldl app k.set
  pre : ∀ j, ∀ l ∈ (k.wait.take j).foldl app k.set, l.length ≤ 16777216
  f0 : 0 ≤ k.fuse
  f1 : k.fuse ≤ 9223372036854775807

theorem Ok.nl {k : Dk} (h : Ok k) : ∀ l ∈ k.now, l.length ≤ 16777216 := by
  have := h.pre k.wait.length
  rw [List.take_length, ← h.now] at this
  exact this

theorem Ok.get [Inhabited (Option Nat)] {k : Dk} (h : Ok k) (i : Nat) : (k.now.getD i []).length ≤ 16777216 := by
  rcases Nat.lt_or_ge i k.now.length with hlt | hge
  · exact h.nl _ (by rw [List.getD_eq_getElem?_getD, List.getElem?_eq_getElem hlt]; exact List.getElem_mem hlt)
  · rw [List.getD_eq_getElem?_getD, List.getElem?_eq_none hge]
    simp

theorem newK_ok : Ok newK := by
  refine ⟨rfl, rfl, fun j l hl => ?_, by decide, by decide⟩
  have : l ∈ List.replicate 16 ([] : Bs) := by simpa [newK] using hl
  rw [List.eq_of_mem_replicate this]
  simp

theorem Ok.burn [Inhabited (Option Nat)] {k : Dk} (h : Ok k) : Ok (burnK k).2 := by
  obtain ⟨q1, q2, q3⟩ := burnK_wait k
  have h0 := h.f0
  have h1 := h.f1
  refine ⟨by rw [q2]; exact h.sl, by rw [q1, q2, q3]; exact h.now, by rw [q1, q2]; exact h.pre, ?_, ?_⟩
  · unfold burnK
    split
    · exact h0
    · split
      · split
        · exact h0
        · simp only; omega
      · exact h0
  · unfold burnK
    split
    · exact h1
    · split
      · split
        · exact h1
        · simp only; omega
      · exact h1

theorem foldl_concat (l : List Bs) (xs : List St) (x : St) : (xs ++ [x]).foldl app l = app (xs.foldl app l) x := by rw [List.foldl_append]; rfl

theorem Ok.put [Inhabited (Option Nat)] {k : Dk} (h : Ok k) {x : St} (hx : ∀ l ∈ app k.now x, l.length ≤ 16777216) : Ok (putK k x) := by
  unfold putK
  split
  · exact h
  · obtain ⟨q1, q2, q3⟩ := burnK_wait k
    have hb := h.burn
    refine ⟨hb.sl, ?_, fun j l hl => ?_, hb.f0, hb.f1⟩
    · simp only
      rw [foldl_concat, q2, ← h.now]
    · simp only at hl
      rw [q2] at hl
      rcases Nat.lt_or_ge k.wait.length j with hj | hj
      · rw [List.take_of_length_le (by simp; omega), foldl_concat, ← h.now] at hl
        exact hx l hl
      · rw [List.take_append_of_le_length hj] at hl
        exact h.pre j l hl

theorem Ok.append [Inhabited (Option Nat)] {k : Dk} (h : Ok k) (i : Nat) (b : Bs) : Ok (appK k i b).2 := by
  unfold appK
  split
  · exact h
  · split
    · exact h
    · rename_i h1
      refine h.put ?_
      rw [app_put]
      exact mem_set_le h.nl (by rw [List.length_append]; omega)

theorem Ok.cut [Inhabited (Option Nat)] {k : Dk} (h : Ok k) (i n : Nat) : Ok (putK k (.cut i n)) := by
  refine h.put ?_
  rw [app_cut]
  exact mem_set_le h.nl (by have := h.get i; rw [List.length_take]; omega)

theorem Ok.settle [Inhabited (Option Nat)] {k : Dk} (h : Ok k) (n : Nat) : Ok (settleK k n) := by
  have hlen : ∀ (xs : List St) (l : List Bs), (xs.foldl app l).length = l.length := by
    intro xs
    induction xs with
    | nil => intro l; rfl
    | cons x xs ih => intro l; rw [List.foldl_cons, ih, app_length]
  refine ⟨by rw [settleK, hlen]; exact h.sl, ?_, fun j l hl => ?_, h.f0, h.f1⟩
  · simp only [settleK]
    rw [← List.foldl_append, List.take_append_drop]
    exact h.now
  · simp only [settleK] at hl
    rw [← List.foldl_append] at hl
    have e : k.wait.take n ++ (k.wait.drop n).take j = k.wait.take (n + j) := by rw [List.take_add]
    rw [e] at hl
    exact h.pre _ l hl

theorem Ok.sync [Inhabited (Option Nat)] {k : Dk} (h : Ok k) : Ok (syncK k).2 := by
  unfold syncK
  split
  · exact h.burn.settle _
  · exact h.burn

end Go.Proofs.Ytbbbgpdhdlknjaa
