/- Disks: a loss of power: what it does, laws for the walk. -/
import Derived.Test.YtbbbgpdhdlknjaaDj
namespace Go.Proofs.Ytbbbgpdhdlknjaa
set_option linter.unusedVariables false
set_option linter.unusedSimpArgs false
open Go.RowKit Go.Lib

def modN (n : Int) (L : Nat) : Nat := (n % ((L : Int) + 1)).toNat

theorem modN_le (n : Int) (L : Nat) : modN n L ≤ L := by
  unfold modN
  have := Int.emod_lt_of_pos n (show (0 : Int) < (L : Int) + 1 by omega)
  omega

theorem modulo_nat [Inhabited (Option Nat)] (w : World) (n : Int) (L : Nat) (h1 : -9223372036854775808 ≤ n) (h2 : n ≤ 9223372036854775807) (hL : L ≤ 99999999) :
    Calls Try.prog 41 #[.int .i64 n, .int .i64 ((L : Int) + 1)] w fun e w' => e = .returned (.int .i64 (modN n L : Int)) ∧ w = w' := by
  have h := modulo_any w n (L + 1) h1 h2 (by omega) (by omega)
  have e : (modN n L : Int) = n % ((L + 1 : Nat) : Int) := by
    unfold modN
    have := Int.emod_nonneg n (show ((L : Int) + 1) ≠ 0 by omega)
    rw [Int.toNat_of_nonneg this]
    rfl
  rw [← e] at h
  exact h

/-- The logs behind a loss of power. -/
def tornS (s : List Bs) (rest : List St) (tear : Int) : List Bs :=
  match rest with
  | .put i b :: _ => app s (.put i (b.take (modN tear b.length)))
  | _ => s

def crashK (k : Dk) (keep tear : Int) : Dk :=
  let s := tornS (settleK k (modN keep k.wait.length)).set (k.wait.drop (modN keep k.wait.length)) tear
  ⟨s, s, [], 0, false, false⟩

theorem wpList_store_part {P : Program} {ops : Array Oper} {rest : List Oper} {o : Oper} {a : Act} {w : World} {Q : Exit → Act → World → Prop} (hgd : o.guard = none) (ty : TypeId) (x y : Operand) (ho : o.op = .store ty x y)
    (g off : Nat) (t : TypeId) (hx : a.eval x = .pointer (some ⟨g, off, none⟩)) (cur cs : List Value) (hy : a.eval y = .agg cs.toArray) (hg : CB w t g cur)
    (hfit : off + cs.length ≤ cur.length) (h1 : ∀ u ∈ cs, u.oneCell' = true) (hi : (P.info? ty).map (·.size) = some cs.length)
    (h : ∀ w', CB w' t g (cur.take off ++ cs ++ cur.drop (off + cs.length)) → Only g w w' → wpList P ops Q rest (a.put o.dst undef) w') : wpList P ops Q (o :: rest) a w := by
  refine wpList_store_agg hgd ty x y ho g off t hx cur.toArray cs hy hg (by simpa using hfit) h1 hi (h _ ?_ ⟨rfl, rfl, rfl, by simp, fun k hk => setRow_other _ _ _ _ hk⟩)
  unfold CB
  rw [setRow_heap _ _ _ _ _ _ hg]

theorem noLogs_one : ∀ u ∈ noLogs, u.oneCell' = true := by
  intro u hu
  rw [List.eq_of_mem_replicate hu]
  rfl

theorem dkC_setNows {S : Nat} {ns : List Value} {wv : Value} {f : Int} {a d : Bool} (h : ns.length = 16) :
    (dkC S ns wv f a d).take 1 ++ noLogs ++ (dkC S ns wv f a d).drop (1 + noLogs.length) = dkC S noLogs wv f a d := by
  unfold dkC
  rw [show 1 + noLogs.length = ns.length + 1 by rw [h]; rfl, List.drop_succ_cons, List.drop_left]
  rfl

/-- The logs copied so far. -/
def nowJ (s : List Bs) (j : Nat) : List Bs := s.take j ++ List.replicate (16 - j) []

theorem nowJ_zero (s : List Bs) : nowJ s 0 = List.replicate 16 [] := by simp [nowJ]
theorem nowJ_full {s : List Bs} (h : s.length = 16) : nowJ s 16 = s := by simp [nowJ, ← h]
theorem nowJ_succ {s : List Bs} (h : s.length = 16) {j : Nat} (hj : j < 16) {b : Bs} (hb : s[j]? = some b) : nowJ s (j + 1) = (nowJ s j).set j b := by
  unfold nowJ
  rw [List.take_add_one, hb, List.set_append_right _ _ (by rw [List.length_take]; omega)]
  have e : j - (s.take j).length = 0 := by rw [List.length_take]; omega
  rw [e, show 16 - j = (16 - (j + 1)) + 1 by omega, List.replicate_succ, List.set_cons_zero]
  simp

theorem DkV.nows [Inhabited (Option Nat)] {w w' : World} {D S : Nat} {vs ns ns' : List Value} {wv : Value} {css : List (List Value)} {k : Dk} {now' : List Bs} (h : DkV w D S vs ns wv css k) (hc : CB w' 65 D (dkC S ns' wv k.fuse k.armed k.dead)) (ho : Only D w w') (hl : Lg w' ns' now') :
    DkV w' D S vs ns' wv css { k with now := now' } := by
  have kt : Kt [65] w w' := Kt.only ho h.cd.tag (by simp)
  exact ⟨hc, h.cs.kt kt (by decide), h.lv.kt kt (by decide), hl, h.wt.kt kt (by decide), h.wl, fun i x cs hx hcs => (h.ws i x cs hx hcs).kt kt (by decide) (by decide) (by decide)⟩

theorem DkV.reset [Inhabited (Option Nat)] {w w' : World} {D S : Nat} {vs ns : List Value} {wv : Value} {css : List (List Value)} {k : Dk} (h : DkV w D S vs ns wv css k) (hc : CB w' 65 D (dkC S ns (.slice none 0 0) 0 false false)) (kt : Kt [65] w w') :
    DkV w' D S vs ns (.slice none 0 0) [] ⟨k.set, k.now, [], 0, false, false⟩ :=
  ⟨hc, h.cs.kt kt (by decide), h.lv.kt kt (by decide), h.ln.kt kt (by decide), VwS.nil _ _ _, rfl, fun i x cs hx _ => by simp at hx⟩

theorem Ok.put_le [Inhabited (Option Nat)] {k : Dk} (h : Ok k) {j i : Nat} {b : Bs} (hj : k.wait[j]? = some (.put i b)) (hi : i < 16) : b.length ≤ 16777216 := by
  have hlen : ∀ (xs : List St) (l : List Bs), (xs.foldl app l).length = l.length := by
    intro xs
    induction xs with
    | nil => intro l; rfl
    | cons x xs ih => intro l; rw [List.foldl_cons, ih, app_length]
  have h1 := h.pre (j + 1)
  rw [List.take_add_one, hj, Option.toList_some, foldl_concat, app_put] at h1
  have h2 := h1 ((((k.wait.take j).foldl app k.set).getD i []) ++ b) (List.mem_iff_getElem?.2 ⟨i, List.getElem?_set_self (by rw [hlen, h.sl]; exact hi)⟩)
  rw [List.length_append] at h2
  omega

theorem Ok.crash [Inhabited (Option Nat)] {k : Dk} (h : Ok k) (keep tear : Int) (hi : ∀ (j i : Nat) (b : Bs), k.wait[j]? = some (.put i b) → i < 16) : Ok (crashK k keep tear) := by
  have hs := h.settle (modN keep k.wait.length)
  have hset : (crashK k keep tear).set.length = 16 ∧ ∀ l ∈ (crashK k keep tear).set, l.length ≤ 16777216 := by
    unfold crashK
    simp only
    have h0 : ∀ l ∈ (settleK k (modN keep k.wait.length)).set, l.length ≤ 16777216 := hs.pre 0
    unfold tornS
    split
    · rename_i i b rest hr
      refine ⟨by rw [app_length]; exact hs.sl, ?_⟩
      rw [app_put]
      refine mem_set_le h0 ?_
      have h1 := hs.pre 1
      have hw : (settleK k (modN keep k.wait.length)).wait = .put i b :: rest := hr
      rw [hw] at h1
      simp only [List.take_succ_cons, List.take_zero, List.foldl_cons, List.foldl_nil] at h1
      rw [app_put] at h1
      have hlt : i < 16 := by
        have h3 : (k.wait.drop (modN keep k.wait.length))[0]? = some (.put i b) := by rw [hr]; rfl
        rw [List.getElem?_drop] at h3
        exact hi _ i b h3
      have h2 := h1 _ (List.mem_iff_getElem?.2 ⟨i, List.getElem?_set_self (by rw [hs.sl]; exact hlt)⟩)
      rw [List.length_append] at h2 ⊢
      rw [List.length_take]
      omega
    · exact ⟨hs.sl, h0⟩
  refine ⟨hset.1, rfl, fun j l hl => ?_, by simp [crashK], by simp [crashK]⟩
  have : l ∈ (crashK k keep tear).set := by simpa [crashK] using hl
  exact hset.2 l this

end Go.Proofs.Ytbbbgpdhdlknjaa
