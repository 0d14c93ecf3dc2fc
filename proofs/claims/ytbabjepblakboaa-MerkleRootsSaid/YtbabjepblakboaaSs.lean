/- What is hashed, in plain words: the schedule, the rounds, a block pressed into a state. -/
import Derived.Test.YtbabjepblakboaaSa
namespace Go.Proofs.Ytbabjepblakboaa
set_option linter.unusedVariables false
set_option linter.unusedSimpArgs false
open Go.RowKit

abbrev W32 := BitVec 32

def wds (l : List W32) : List Value := l.map wd

@[simp] theorem wds_length (l : List W32) : (wds l).length = l.length := by simp [wds]

def sgA (x : W32) : W32 := rr x 7 ^^^ rr x 18 ^^^ x >>> 3
def sgB (x : W32) : W32 := rr x 17 ^^^ rr x 19 ^^^ x >>> 10
def sgC (x : W32) : W32 := rr x 6 ^^^ rr x 11 ^^^ rr x 25
def sgD (x : W32) : W32 := rr x 2 ^^^ rr x 13 ^^^ rr x 22

/-- The next word behind the ones that are there. -/
def nextW (l : List W32) : W32 := l.getD (l.length - 16) 0 + sgA (l.getD (l.length - 15) 0) + l.getD (l.length - 7) 0 + sgB (l.getD (l.length - 2) 0)

def growW (l : List W32) : Nat → List W32
  | 0 => l
  | n + 1 => let m := growW l n; m ++ [nextW m]

structure St where
  a : W32
  b : W32
  c : W32
  d : W32
  e : W32
  f : W32
  g : W32
  h : W32

def St.l (s : St) : List W32 := [s.a, s.b, s.c, s.d, s.e, s.f, s.g, s.h]

def stepX (k w : W32) (s : St) : W32 := s.h + sgC s.e + (s.e &&& s.f ^^^ ~~~s.e &&& s.g) + k + w
def stepY (s : St) : W32 := sgD s.a + (s.a &&& s.b ^^^ s.a &&& s.c ^^^ s.b &&& s.c)
def step (k w : W32) (s : St) : St := ⟨stepX k w s + stepY s, s.a, s.b, s.c, s.d + stepX k w s, s.e, s.f, s.g⟩

def steps (k w : List W32) (s : St) : Nat → St
  | 0 => s
  | n + 1 => step (k.getD n 0) (w.getD n 0) (steps k w s n)

def St.add (s t : St) : St := ⟨s.a + t.a, s.b + t.b, s.c + t.c, s.d + t.d, s.e + t.e, s.f + t.f, s.g + t.g, s.h + t.h⟩

/-- Four bytes' word. -/
def word4 (a b c d : UInt8) : W32 := BitVec.ofNat 32 (a.toNat * 16777216 + b.toNat * 65536 + c.toNat * 256 + d.toNat)

def words (l : List UInt8) : Nat → List W32
  | 0 => []
  | n + 1 => words l n ++ [word4 (l.getD (4 * n) 0) (l.getD (4 * n + 1) 0) (l.getD (4 * n + 2) 0) (l.getD (4 * n + 3) 0)]

/-- A block pressed into a state. -/
def pressS (k : List W32) (s : St) (b : List UInt8) : St := s.add (steps k (growW (words b 16) 48) s 64)

@[simp] theorem words_length (l : List UInt8) (n : Nat) : (words l n).length = n := by induction n <;> simp [words, *]
@[simp] theorem growW_length (l : List W32) (n : Nat) : (growW l n).length = l.length + n := by induction n <;> simp [growW, *]; omega

theorem or_sum (a b i : Nat) (hb : b < 2 ^ i) : (a * 2 ^ i) ||| b = a * 2 ^ i + b := by
  have := Nat.shiftLeft_add_eq_or_of_lt hb a
  rw [Nat.shiftLeft_eq] at this
  exact this.symm

theorem u32_wrapN (a : Nat) (ha : a < 4294967296) : IntKind.u32.wrap (a : Int) = (a : Int) := by rw [IntKind.wrap_u32']; omega

theorem word4_toNat (a b c d : UInt8) : (word4 a b c d).toNat = a.toNat * 16777216 + b.toNat * 65536 + c.toNat * 256 + d.toNat := by
  have ha := a.toNat_lt
  have hb := b.toNat_lt
  have hc := c.toNat_lt
  have hd := d.toNat_lt
  unfold word4
  rw [BitVec.toNat_ofNat, Nat.mod_eq_of_lt (by omega)]

/-- The word as the program reckons it. -/
theorem word_or (a b c d : UInt8) : bits BinOp.or IntKind.u32 (bits BinOp.or IntKind.u32 (bits BinOp.or IntKind.u32 ((a.toNat : Int) * 16777216) ((b.toNat : Int) * 65536)) ((c.toNat : Int) * 256)) (d.toNat : Int) = ((word4 a b c d).toNat : Int) := by
  have ha := a.toNat_lt
  have hb := b.toNat_lt
  have hc := c.toNat_lt
  have hd := d.toNat_lt
  rw [show (a.toNat : Int) * 16777216 = ((a.toNat * 16777216 : Nat) : Int) by omega, show (b.toNat : Int) * 65536 = ((b.toNat * 65536 : Nat) : Int) by omega, show (c.toNat : Int) * 256 = ((c.toNat * 256 : Nat) : Int) by omega]
  rw [u32_or_nat _ _ (by omega) (by omega)]
  rw [show (a.toNat * 16777216) = (a.toNat * 2 ^ 24) by omega, or_sum _ _ 24 (by omega)]
  rw [u32_or_nat _ _ (by omega) (by omega)]
  rw [show (a.toNat * 2 ^ 24 + b.toNat * 65536) = ((a.toNat * 256 + b.toNat) * 2 ^ 16) by omega, or_sum _ _ 16 (by omega)]
  rw [u32_or_nat _ _ (by omega) (by omega)]
  rw [show ((a.toNat * 256 + b.toNat) * 2 ^ 16 + c.toNat * 256) = ((a.toNat * 65536 + b.toNat * 256 + c.toNat) * 2 ^ 8) by omega, or_sum _ _ 8 (by omega)]
  rw [word4_toNat]
  omega

theorem shr3_wd (x : W32) : (x.toNat : Int) / (8 : Int) = ((x >>> 3).toNat : Int) := shr_wd x 3
theorem shr10_wd (x : W32) : (x.toNat : Int) / (1024 : Int) = ((x >>> 10).toNat : Int) := shr_wd x 10

theorem turn_int (x : W32) (n : Nat) (k : Int) (X R : Nat) (hk : k = (n : Int)) (hX : X = x.toNat) (hR : R = (rr x n).toNat) (hn : 1 ≤ n) (hn' : n ≤ 31) (w : World) :
    Calls Try.prog 171 #[.int .u32 (X : Int), .int .i64 k] w fun e w' => e = .returned (.int .u32 (R : Int)) ∧ w' = w := by
  subst hk hX hR
  exact turn_any w x n hn hn'

theorem right_int (x : W32) (n : Nat) (k : Int) (X R : Nat) (hk : k = (n : Int)) (hX : X = x.toNat) (hR : R = (rr x n).toNat) (hn : 1 ≤ n) (hn' : n ≤ 31) (w : World) :
    Calls Try.prog 147 #[.int .u32 (X : Int), .int .u64 k] w fun e w' => e = .returned (.int .u32 (R : Int)) ∧ w' = w := by
  subst hk hX hR
  exact right_any w x n hn hn'

/-- Values in a block. -/
def CB (w : World) (e : TypeId) (g : Nat) (L : List Value) : Prop := w.heap[g]? = some (.cells L.toArray e (0, 0))

theorem CB.lt {w : World} {e : TypeId} {g : Nat} {L : List Value} (h : CB w e g L) : g < w.heap.size := lt_of_block h

theorem CB.cell {w : World} {e : TypeId} {g : Nat} {L : List Value} (h : CB w e g L) (k : Nat) (x : Value) (hx : L[k]? = some x) : w.cell? ⟨g, k, none⟩ = some x := by
  unfold CB at h
  simp [World.cell?, h, hx]

theorem CB.free {w : World} {e : TypeId} {g : Nat} {L : List Value} (h : CB w e g L) (k : Nat) : w.frozen? ⟨g, k, none⟩ = false := by
  unfold CB at h
  simp [World.frozen?, h]

theorem CB.set {w : World} {e : TypeId} {g : Nat} {L : List Value} (h : CB w e g L) (k : Nat) (x : Value) : CB (w.setCell ⟨g, k, none⟩ x) e g (L.set k x) := by
  have h' : w.heap[g]? = _ := h
  unfold CB
  rw [heap_setCell_same _ _ _ _ _ _ h']
  simp

theorem CB.other {w : World} {e : TypeId} {g : Nat} {L : List Value} (h : CB w e g L) {a : Addr} (ha : a.block ≠ g) (v : Value) : CB (w.setCell a v) e g L := by
  unfold CB
  rw [heap_setCell_other _ _ _ _ (fun e => ha e.symm)]
  exact h

theorem CB.fresh {w w' : World} {e : TypeId} {g : Nat} {L : List Value} (h : CB w e g L) (hb : Below w.heap.size w w') : CB w' e g L := by
  unfold CB
  rw [hb.block g h.lt]
  exact h

theorem CB.below {w w' : World} {e : TypeId} {g B : Nat} {L : List Value} (h : CB w e g L) (hb : Below B w w') (hg : g < B) : CB w' e g L := by
  unfold CB
  rw [hb.block g hg]
  exact h

theorem CB.drew {w : World} {e : TypeId} {g : Nat} {L : List Value} (h : CB w e g L) : CB w.drew e g L := h

theorem CB.new (w : World) (e : TypeId) (L : List Value) : CB (w.alloc (.cells L.toArray e)) e w.heap.size L := heap_alloc_new w _

theorem alloc_cb (w : World) (e : TypeId) (L : List Value) : ∃ w', w' = w.alloc (.cells L.toArray e) ∧ CB w' e w.heap.size L ∧ Below w.heap.size w w' ∧ w'.heap.size = w.heap.size + 1 :=
  ⟨_, rfl, CB.new w e L, (Below.refl _ w).alloc (Nat.le_refl _) _, Array.size_push _⟩

theorem CB.only {w w' : World} {e : TypeId} {g r : Nat} {L : List Value} (h : CB w e g L) (ho : Only r w w') (hne : g ≠ r) : CB w' e g L := by
  unfold CB
  rw [ho.block g hne]
  exact h

theorem wds_get (l : List W32) (k : Nat) (h : k < l.length) : (wds l)[k]? = some (wd (l.getD k 0)) := by
  simp [wds, List.getD_eq_getElem?_getD, h]

theorem wds_zero (l : List W32) (m k : Nat) (h : l.length ≤ k) (h' : k < l.length + m) : (wds (l ++ List.replicate m 0))[k]? = some (wd 0) := by
  have : k - l.length < m := by omega
  unfold wds
  rw [List.getElem?_map, List.getElem?_append_right h, List.getElem?_replicate_of_lt this]
  rfl

theorem wds_getL (l m : List W32) (k : Nat) (h : k < l.length) : (wds (l ++ m))[k]? = some (wd (l.getD k 0)) := by
  rw [wds_get _ _ (by simp; omega)]
  simp [List.getD_eq_getElem?_getD, List.getElem?_append_left h]

theorem wds_set (l : List W32) (k : Nat) (x : W32) : (wds l).set k (wd x) = wds (l.set k x) := by
  simp [wds, List.map_set]

/-- The next one is laid where zeros lie. -/
theorem set_next (l : List W32) (n : Nat) (x : W32) : (l ++ List.replicate (n + 1) 0).set l.length x = (l ++ [x]) ++ List.replicate n 0 := by
  rw [List.set_append_right _ _ (Nat.le_refl _)]
  simp [List.replicate_succ]

theorem getD_left (l m : List W32) (k : Nat) (h : k < l.length) : (l ++ m).getD k 0 = l.getD k 0 := by
  simp [List.getD_eq_getElem?_getD, List.getElem?_append_left h]

theorem put_word {wr : World} {t : TypeId} {b k : Nat} {l : List UInt8} (h : CB wr t b (wds (words l k ++ List.replicate (64 - k) 0))) (hk : k < 16) :
    CB (wr.setCell ⟨b, k, none⟩ (.int .u32 ((word4 (l.getD (4 * k) 0) (l.getD (4 * k + 1) 0) (l.getD (4 * k + 2) 0) (l.getD (4 * k + 3) 0)).toNat : Int))) t b (wds (words l (k + 1) ++ List.replicate (64 - (k + 1)) 0)) := by
  have h1 := h.set k (wd (word4 (l.getD (4 * k) 0) (l.getD (4 * k + 1) 0) (l.getD (4 * k + 2) 0) (l.getD (4 * k + 3) 0)))
  rw [wds_set, show 64 - k = (64 - (k + 1)) + 1 by omega] at h1
  have h2 := set_next (words l k) (64 - (k + 1)) (word4 (l.getD (4 * k) 0) (l.getD (4 * k + 1) 0) (l.getD (4 * k + 2) 0) (l.getD (4 * k + 3) 0))
  rw [words_length] at h2
  rw [h2] at h1
  exact h1

theorem put_next {wr : World} {t : TypeId} {b n i : Nat} {W0 M : List W32} (hM : M = growW W0 n) (h0 : W0.length = 16) (hi : i = 16 + n) (h : CB wr t b (wds (growW W0 n ++ List.replicate (48 - n) 0))) (hn : n < 48) (v : Int) (hv : v = ((nextW M).toNat : Int)) :
    CB (wr.setCell ⟨b, i, none⟩ (.int .u32 v)) t b (wds (growW W0 (n + 1) ++ List.replicate (48 - (n + 1)) 0)) := by
  subst hv hM
  have h1 := h.set i (wd (nextW (growW W0 n)))
  rw [wds_set, show 48 - n = (48 - (n + 1)) + 1 by omega] at h1
  have h2 := set_next (growW W0 n) (48 - (n + 1)) (nextW (growW W0 n))
  rw [growW_length, h0, ← hi] at h2
  rw [h2] at h1
  exact h1

theorem next_val (x y a b : W32) : (((a.toNat : Int) + bits BinOp.xor IntKind.u32 (bits BinOp.xor IntKind.u32 ((rr x 7).toNat : Int) ((rr x 18).toNat : Int)) ((x.toNat : Int) / 8) + (b.toNat : Int) + bits BinOp.xor IntKind.u32 (bits BinOp.xor IntKind.u32 ((rr y 17).toNat : Int) ((rr y 19).toNat : Int)) ((y.toNat : Int) / 1024)) % 4294967296) = ((a + sgA x + b + sgB y).toNat : Int) := by
  rw [shr3_wd, shr10_wd, xor_wd, xor_wd, xor_wd, xor_wd]
  change ((a.toNat : Int) + ((sgA x).toNat : Int) + (b.toNat : Int) + ((sgB y).toNat : Int)) % 4294967296 = _
  rw [BitVec.toNat_add, BitVec.toNat_add, BitVec.toNat_add]
  omega

theorem add_wrap (x y : W32) : IntKind.u32.wrap ((x.toNat : Int) + (y.toNat : Int)) = ((x + y).toNat : Int) := by
  rw [IntKind.wrap_u32', add_wd]

theorem not_wd (x : W32) : bits BinOp.xor IntKind.u32 (if IntKind.u32.signed = true then -1 else IntKind.u32.max) (x.toNat : Int) = ((~~~x).toNat : Int) := by
  have h : (if IntKind.u32.signed = true then (-1 : Int) else IntKind.u32.max) = ((BitVec.allOnes 32).toNat : Int) := by decide
  rw [h, xor_wd, BitVec.allOnes_xor]

theorem stepX_val (a b c d e f g h k w : W32) :
    IntKind.u32.wrap (IntKind.u32.wrap (IntKind.u32.wrap (IntKind.u32.wrap ((h.toNat : Int) + bits BinOp.xor IntKind.u32 (bits BinOp.xor IntKind.u32 ((rr e 6).toNat : Int) ((rr e 11).toNat : Int)) ((rr e 25).toNat : Int)) +
      bits BinOp.xor IntKind.u32 (bits BinOp.and IntKind.u32 (e.toNat : Int) (f.toNat : Int)) (bits BinOp.and IntKind.u32 (bits BinOp.xor IntKind.u32 (if IntKind.u32.signed = true then -1 else IntKind.u32.max) (e.toNat : Int)) (g.toNat : Int))) + (k.toNat : Int)) + (w.toNat : Int))
    = ((stepX k w ⟨a, b, c, d, e, f, g, h⟩).toNat : Int) := by
  rw [not_wd, xor_wd, xor_wd, and_wd, and_wd, xor_wd, add_wrap, add_wrap, add_wrap, add_wrap]
  rfl

theorem stepY_val (a b c d e f g h : W32) :
    IntKind.u32.wrap (bits BinOp.xor IntKind.u32 (bits BinOp.xor IntKind.u32 ((rr a 2).toNat : Int) ((rr a 13).toNat : Int)) ((rr a 22).toNat : Int) +
      bits BinOp.xor IntKind.u32 (bits BinOp.xor IntKind.u32 (bits BinOp.and IntKind.u32 (a.toNat : Int) (b.toNat : Int)) (bits BinOp.and IntKind.u32 (a.toNat : Int) (c.toNat : Int))) (bits BinOp.and IntKind.u32 (b.toNat : Int) (c.toNat : Int)))
    = ((stepY ⟨a, b, c, d, e, f, g, h⟩).toNat : Int) := by
  rw [xor_wd, xor_wd, and_wd, and_wd, and_wd, xor_wd, xor_wd, add_wrap]
  rfl

theorem stepA_val (k w a b c d e f g h : W32) :
    (((stepX k w ⟨a, b, c, d, e, f, g, h⟩).toNat : Int) + (bits BinOp.xor IntKind.u32 (bits BinOp.xor IntKind.u32 ((rr a 2).toNat : Int) ((rr a 13).toNat : Int)) ((rr a 22).toNat : Int) +
      bits BinOp.xor IntKind.u32 (bits BinOp.xor IntKind.u32 (bits BinOp.and IntKind.u32 (a.toNat : Int) (b.toNat : Int)) (bits BinOp.and IntKind.u32 (a.toNat : Int) (c.toNat : Int))) (bits BinOp.and IntKind.u32 (b.toNat : Int) (c.toNat : Int))) % 4294967296) % 4294967296
    = (((step k w ⟨a, b, c, d, e, f, g, h⟩).a).toNat : Int) := by
  have h1 := stepY_val a b c d e f g h
  rw [IntKind.wrap_u32'] at h1
  change _ = (((stepX k w ⟨a, b, c, d, e, f, g, h⟩ + stepY ⟨a, b, c, d, e, f, g, h⟩ : W32)).toNat : Int)
  rw [BitVec.toNat_add, h1]
  omega

/-- The first n are added to. -/
def mixL (X Y : List W32) (n : Nat) : List W32 := (List.zipWith (· + ·) X Y).take n ++ X.drop n

theorem mixL_length (X Y : List W32) (n : Nat) (h : X.length = Y.length) : (mixL X Y n).length = X.length := by
  simp [mixL, ← h]
  omega

theorem mixL_get (X Y : List W32) (n : Nat) (h : X.length = Y.length) (hn : n < X.length) : (wds (mixL X Y n))[n]? = some (wd (X.getD n 0)) := by
  have hl : ((List.zipWith (· + ·) X Y).take n).length = n := by simp [← h]; omega
  unfold wds mixL
  rw [List.getElem?_map, List.getElem?_append_right (by omega), hl]
  simp [List.getD_eq_getElem?_getD, hn]

theorem mixL_set (X Y : List W32) (n : Nat) (h : X.length = Y.length) (hn : n < X.length) : (mixL X Y n).set n (X.getD n 0 + Y.getD n 0) = mixL X Y (n + 1) := by
  have hl : ((List.zipWith (· + ·) X Y).take n).length = n := by simp [← h]; omega
  unfold mixL
  rw [List.set_append_right _ _ (by omega), hl, Nat.sub_self]
  rw [show X.drop n = X.getD n 0 :: X.drop (n + 1) by
    rw [List.drop_eq_getElem_cons hn]; simp [List.getD_eq_getElem?_getD, hn]]
  rw [List.set_cons_zero]
  rw [List.take_add_one]
  simp [List.getElem?_zipWith, List.getD_eq_getElem?_getD, hn, show n < Y.length by omega]

theorem put_mix {wr : World} {t : TypeId} {b n : Nat} {X Y : List W32} (hl : X.length = Y.length) (hn : n < X.length) (h : CB wr t b (wds (mixL X Y n))) (v : Int) (hv : v = ((X.getD n 0 + Y.getD n 0).toNat : Int)) :
    CB (wr.setCell ⟨b, n, none⟩ (.int .u32 v)) t b (wds (mixL X Y (n + 1))) := by
  subst hv
  have h1 := h.set n (wd (X.getD n 0 + Y.getD n 0))
  rw [wds_set, mixL_set X Y n hl hn] at h1
  exact h1

theorem mixL_all (s t : St) : mixL s.l t.l 8 = (s.add t).l := rfl

theorem results_cell1 {P : Program} {fn : Func} {p : Tmp} {ty : TypeId} (h : fn.results = #[.cell p ty]) (tmps : Array Value) (w : World) (g : Nat) (t : TypeId) (cs : Array Value) (fr : Nat × Nat) (d : TypeDesc)
    (hp : tmps.getD p undef = .pointer (some ⟨g, 0, none⟩)) (hg : w.heap[g]? = some (.cells cs t fr))
    (hu : P.underlying ty = some d) (hd : (match d with | .struct _ | .array _ _ => true | _ => false) = true) (hi : (P.info? ty).map (·.size) = some cs.size) :
    (results fn tmps).run P w = .ok (.agg cs) w := by
  have hp' : tmps[p]?.getD undef = .pointer (some ⟨g, 0, none⟩) := by simpa using hp
  simp [results, h, hp', asAddr, run_loadVar_row w g t ty cs fr d hg hu hd hi]

theorem infoW8 : (Try.prog.info? 169).map (·.size) = some 8 := by kernel_rfl
theorem infoW64 : (Try.prog.info? 201).map (·.size) = some 64 := by kernel_rfl

theorem CB.at {w : World} {e : TypeId} {g : Nat} {L : List Value} (h : CB w e g L) : At w g 0 L := At.block h

theorem notR_wd (x : W32) : IntKind.u32.wrap (4294967295 - (x.toNat : Int)) = ((~~~x).toNat : Int) := by
  have := x.isLt
  rw [IntKind.wrap_u32', BitVec.toNat_not]
  omega

theorem stepX_valR (a b c d e f g h k w : W32) :
    IntKind.u32.wrap (IntKind.u32.wrap (IntKind.u32.wrap (IntKind.u32.wrap ((h.toNat : Int) + bits BinOp.xor IntKind.u32 (bits BinOp.xor IntKind.u32 ((rr e 6).toNat : Int) ((rr e 11).toNat : Int)) ((rr e 25).toNat : Int)) +
      bits BinOp.xor IntKind.u32 (bits BinOp.and IntKind.u32 (e.toNat : Int) (f.toNat : Int)) (bits BinOp.and IntKind.u32 (IntKind.u32.wrap (4294967295 - (e.toNat : Int))) (g.toNat : Int))) + (k.toNat : Int)) + (w.toNat : Int))
    = ((stepX k w ⟨a, b, c, d, e, f, g, h⟩).toNat : Int) := by
  rw [notR_wd, xor_wd, xor_wd, and_wd, and_wd, xor_wd, add_wrap, add_wrap, add_wrap, add_wrap]
  rfl

theorem wds_one (l : List W32) : ∀ u ∈ wds l, u.oneCell' = true := by
  intro u hu
  simp only [wds, List.mem_map] at hu
  obtain ⟨x, _, rfl⟩ := hu
  rfl
end Go.Proofs.Ytbabjepblakboaa
