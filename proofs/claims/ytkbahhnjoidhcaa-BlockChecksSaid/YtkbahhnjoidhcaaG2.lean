/- Texts Base RowB Sa Ss Sk Sc Sn St Sq Sb Sv, one behind the other. -/
import Derived.Test.YtkbahhnjoidhcaaProg
import Derived.Test.YtkbahhnjoidhcaaG1
import Derived.Stop.BytesEq
import Derived.Laws.Bits64b
import Derived.Laws.BitsAllLaws
import Derived.Laws.Wrap64
import Derived.Laws.ShiftsVarLaws
import Derived.Lib.Mul64
import Derived.Shelf.Bits.Mul64
import Derived.Laws.Externs
import Derived.WalkKit
import Derived.Shelf.Abstract
import Derived.WalkMore
import Derived.ScopeJumps
import Derived.ArgAppend
/- Numbers of the program's types: sizes, and what two hashes compare as. -/
namespace Go.Proofs.Ytkbahhnjoidhcaa
set_option linter.unusedVariables false
set_option linter.unusedSimpArgs false
open Go.RowKit

theorem infoU8 : (Try.prog.info? 5).map (fun i => (i.zero, i.size, i.bytes)) = some (some (.int .u8 0), 1, 1) := by kernel_rfl

theorem sizeU8 : (Try.prog.info? 5).map (·.size) = some 1 := by kernel_rfl

theorem infoHash : (Try.prog.info? 24).map (·.size) = some 32 := by kernel_rfl

theorem hash_eq (w : World) (xs ys : List UInt8) (hx : xs.length = 32) (hy : ys.length = 32) :
    (binOp .eql 24 (.agg (bvs xs).toArray) (.agg (bvs ys).toArray)).run Try.prog w = .ok (.bool (xs == ys)) w :=
  run_eql_bytes w 24 5 32 Try.underlying24 Try.underlying5 (fun w' => run_size_of sizeU8 w') xs ys hx hy

end Go.Proofs.Ytkbahhnjoidhcaa

/- What every row of this program asks. -/
namespace Go.Proofs.Ytkbahhnjoidhcaa
set_option linter.unusedVariables false
set_option linter.unusedSimpArgs false
open Go.ChangeShapes Go.WideShapes Go.ChangeAt Go.RowKit Go.Deep

theorem ownKnobNone : ownKnob Try.prog.godebug = none := by kernel_rfl
theorem laidOutTrue : laidOutB Try.prog = true := by kernel_rfl
theorem cellsU8 : Try.prog.cellsOf 5 = 1 := by kernel_rfl
theorem cellsHash : Try.prog.cellsOf 24 = 32 := by kernel_rfl
theorem cellsI64 : Try.prog.cellsOf 3 = 1 := by kernel_rfl
theorem cellsU64 : Try.prog.cellsOf 25 = 1 := by kernel_rfl
theorem cellsBytes : Try.prog.cellsOf 42 = 1 := by kernel_rfl

end Go.Proofs.Ytkbahhnjoidhcaa

/- Words of 32 bits: turning. -/
namespace Go.Proofs.Ytkbahhnjoidhcaa
set_option linter.unusedVariables false
set_option linter.unusedSimpArgs false
open Go.RowKit Go.Lib

def wd (x : BitVec 32) : Value := .int .u32 (x.toNat : Int)

/-- Turned right. -/
def rr (x : BitVec 32) (n : Nat) : BitVec 32 := x >>> n ||| x <<< (32 - n)

theorem u32_ofInt (x : BitVec 32) : BitVec.ofInt 32 (x.toNat : Int) = x := by
  rw [BitVec.ofInt_natCast, BitVec.ofNat_toNat, BitVec.setWidth_eq]

theorem u32_wrap (x : BitVec 32) : IntKind.u32.wrap (x.toNat : Int) = (x.toNat : Int) := by
  have := x.isLt
  rw [IntKind.wrap_u32']
  omega

theorem or_wd (x y : BitVec 32) : bits BinOp.or IntKind.u32 (x.toNat : Int) (y.toNat : Int) = ((x ||| y).toNat : Int) := by
  show IntKind.u32.wrap ((BitVec.ofInt 32 (x.toNat : Int) ||| BitVec.ofInt 32 (y.toNat : Int)).toNat : Int) = _
  rw [u32_ofInt, u32_ofInt, u32_wrap]

theorem and_wd (x y : BitVec 32) : bits BinOp.and IntKind.u32 (x.toNat : Int) (y.toNat : Int) = ((x &&& y).toNat : Int) := by
  show IntKind.u32.wrap ((BitVec.ofInt 32 (x.toNat : Int) &&& BitVec.ofInt 32 (y.toNat : Int)).toNat : Int) = _
  rw [u32_ofInt, u32_ofInt, u32_wrap]

theorem xor_wd (x y : BitVec 32) : bits BinOp.xor IntKind.u32 (x.toNat : Int) (y.toNat : Int) = ((x ^^^ y).toNat : Int) := by
  show IntKind.u32.wrap ((BitVec.ofInt 32 (x.toNat : Int) ^^^ BitVec.ofInt 32 (y.toNat : Int)).toNat : Int) = _
  rw [u32_ofInt, u32_ofInt, u32_wrap]

theorem add_wd (x y : BitVec 32) : ((x.toNat : Int) + (y.toNat : Int)) % 4294967296 = ((x + y).toNat : Int) := by
  rw [BitVec.toNat_add]
  omega

theorem shl_wd (x : BitVec 32) (m : Nat) : (x.toNat : Int) * 2 ^ m % 4294967296 = ((x <<< m).toNat : Int) := by
  rw [BitVec.toNat_shiftLeft, Nat.shiftLeft_eq]
  rw [Int.natCast_emod, Int.natCast_mul, Int.natCast_pow]
  rfl

theorem shr_wd (x : BitVec 32) (m : Nat) : (x.toNat : Int) / 2 ^ m = ((x >>> m).toNat : Int) := by
  rw [BitVec.toNat_ushiftRight, Nat.shiftRight_eq_div_pow, Int.natCast_ediv, Int.natCast_pow]
  rfl

/-- The two halves of a turned word stand apart. -/
theorem rr_add (x : BitVec 32) (n : Nat) (h : n ≤ 32) : x >>> n + x <<< (32 - n) = rr x n := by
  unfold rr
  rw [BitVec.add_eq_or_of_and_eq_zero]
  apply BitVec.eq_of_getElem_eq
  intro i hi
  simp only [BitVec.getElem_and, BitVec.getElem_ushiftRight, BitVec.getElem_shiftLeft, BitVec.getElem_zero]
  by_cases hlt : i < 32 - n
  · simp [hlt]
  · rw [BitVec.getLsbD_of_ge _ _ (by omega)]
    simp

theorem rr_or (x : BitVec 32) (n : Nat) : x <<< (32 - n) ||| x >>> n = rr x n := BitVec.or_comm _ _

theorem mask31 : ∀ n : Fin 32, 1 ≤ n.val → bits BinOp.and IntKind.u64 (IntKind.u64.wrap (-(n.val : Int))) 31 = ((32 - n.val : Nat) : Int) := by decide +kernel

theorem rotl_any (w : World) (x : BitVec 32) (n : Nat) (hn : 1 ≤ n) (hn' : n ≤ 31) :
    Calls Try.prog 122 #[wd x, .int .i64 (-(n : Int))] w fun e w' => e = .returned (wd (rr x n)) ∧ w' = w := by
  have hm := mask31 ⟨n, by omega⟩ hn
  simp only at hm
  have h0 : (0 : Int) ≤ ((32 - n : Nat) : Int) := by omega
  have h1 : (0 : Int) ≤ 32 - ((32 - n : Nat) : Int) := by omega
  have h2 : IntKind.u64.wrap (32 - ((32 - n : Nat) : Int)) = (n : Int) := by rw [IntKind.wrap_u64]; omega
  obtain ⟨m, hmm⟩ : ∃ m, m = 32 - n := ⟨_, rfl⟩
  rw [← hmm] at hm h0 h1 h2
  unfold wd
  have hx := x.isLt
  obtain ⟨r, hr⟩ : ∃ r, r = (rr x n).toNat := ⟨_, rfl⟩
  rw [← hr]
  have Hr := Lib.hid hr
  have Hmm := Lib.hid hmm
  clear hr hmm
  obtain ⟨y, hy⟩ : ∃ y, y = x.toNat := ⟨_, rfl⟩
  rw [← hy]
  have Hy := Lib.hid hy; clear hy
  go_enter Try.func122, Try.ntmps122
  go_wp2
  go_ret
  refine ⟨?_, rfl⟩
  show Ending.returned (.int .u32 (bits BinOp.or IntKind.u32 ((y : Int) * 2 ^ m % 4294967296) ((y : Int) / 2 ^ n))) = _
  rw [Hy.out, Hr.out, Hmm.out, shl_wd, shr_wd, or_wd, rr_or]

theorem turn_any (w : World) (x : BitVec 32) (n : Nat) (hn : 1 ≤ n) (hn' : n ≤ 31) :
    Calls Try.prog 121 #[wd x, .int .i64 (n : Int)] w fun e w' => e = .returned (wd (rr x n)) ∧ w' = w := by
  have C := fun w0 => rotl_any w0 x n hn hn'
  have hw : IntKind.i64.wrap (-(n : Int)) = -(n : Int) := by
    simp [IntKind.wrap, IntKind.bits, IntKind.signed]
    omega
  go_enter Try.func121, Try.ntmps121
  go_wp2_with fail
  refine (C _).mono ?_
  rintro e w' ⟨rfl, rfl⟩
  go_wp2
  go_ret
  exact ⟨rfl, rfl⟩

theorem right_any (w : World) (x : BitVec 32) (n : Nat) (hn : 1 ≤ n) (hn' : n ≤ 31) :
    Calls Try.prog 94 #[wd x, .int .u64 (n : Int)] w fun e w' => e = .returned (wd (rr x n)) ∧ w' = w := by
  have h0 : (0 : Int) ≤ (n : Int) := by omega
  have h1 : (0 : Int) ≤ 32 - (n : Int) := by omega
  have h2 : IntKind.u64.wrap (32 - (n : Int)) = ((32 - n : Nat) : Int) := by rw [IntKind.wrap_u64]; omega
  have h3 : (0 : Int) ≤ ((32 - n : Nat) : Int) := by omega
  have hs : (x >>> n + x <<< (32 - n)).toNat = (rr x n).toNat := by rw [rr_add x n (by omega)]
  obtain ⟨m, hmm⟩ : ∃ m, m = 32 - n := ⟨_, rfl⟩
  rw [← hmm] at h2 h3 hs
  obtain ⟨r, hr⟩ : ∃ r, r = (rr x n).toNat := ⟨_, rfl⟩
  unfold wd
  rw [← hr] at hs ⊢
  have Hs := Lib.hid hs
  have Hmm := Lib.hid hmm
  clear hr hmm hs
  obtain ⟨y, hy⟩ : ∃ y, y = x.toNat := ⟨_, rfl⟩
  rw [← hy]
  have Hy := Lib.hid hy; clear hy
  go_enter Try.func94, Try.ntmps94
  go_wp2
  go_ret
  refine ⟨?_, rfl⟩
  have hm32 : min m 32 = m := by have := Hmm.out; omega
  show Ending.returned (.int .u32 (((y : Int) / 2 ^ n + ((y : Int) * 2 ^ min m 32 % 4294967296)) % 4294967296)) = _
  rw [hm32, Hy.out, shl_wd, shr_wd, add_wd, Hs.out]
end Go.Proofs.Ytkbahhnjoidhcaa

/- What is hashed, in plain words: the schedule, the rounds, a block pressed into a state. -/
namespace Go.Proofs.Ytkbahhnjoidhcaa
set_option linter.unusedVariables false
set_option linter.unusedSimpArgs false
open Go.RowKit

abbrev W32 := BitVec 32

def wds (l : List W32) : List Value := l.map wd

@[simp] theorem wds_length (l : List W32) : (wds l).length = l.length := by simp [wds]

def sgA (x : W32) : W32 := rr x 7 ^^^ rr x 18 ^^^ x >>> 3
def sgB (x : W32) : W32 := rr x 17 ^^^ rr x 19 ^^^ x >>> 10
def sgC (x : W32) : W32 := rr x 6 ^^^ rr x 11 ^^^ rr x 25
def sgD (x : W32) : W32 := rr x 2 ^^^ rr x 13 ^^^ rr x 22

/-- The next word behind the ones that are there. -/
def nextW (l : List W32) : W32 := l.getD (l.length - 16) 0 + sgA (l.getD (l.length - 15) 0) + l.getD (l.length - 7) 0 + sgB (l.getD (l.length - 2) 0)

def growW (l : List W32) : Nat → List W32
  | 0 => l
  | n + 1 => let m := growW l n; m ++ [nextW m]

structure St where
  a : W32
  b : W32
  c : W32
  d : W32
  e : W32
  f : W32
  g : W32
  h : W32

def St.l (s : St) : List W32 := [s.a, s.b, s.c, s.d, s.e, s.f, s.g, s.h]

def stepX (k w : W32) (s : St) : W32 := s.h + sgC s.e + (s.e &&& s.f ^^^ ~~~s.e &&& s.g) + k + w
def stepY (s : St) : W32 := sgD s.a + (s.a &&& s.b ^^^ s.a &&& s.c ^^^ s.b &&& s.c)
def step (k w : W32) (s : St) : St := ⟨stepX k w s + stepY s, s.a, s.b, s.c, s.d + stepX k w s, s.e, s.f, s.g⟩

def steps (k w : List W32) (s : St) : Nat → St
  | 0 => s
  | n + 1 => step (k.getD n 0) (w.getD n 0) (steps k w s n)

def St.add (s t : St) : St := ⟨s.a + t.a, s.b + t.b, s.c + t.c, s.d + t.d, s.e + t.e, s.f + t.f, s.g + t.g, s.h + t.h⟩

/-- Four bytes' word. -/
def word4 (a b c d : UInt8) : W32 := BitVec.ofNat 32 (a.toNat * 16777216 + b.toNat * 65536 + c.toNat * 256 + d.toNat)

def words (l : List UInt8) : Nat → List W32
  | 0 => []
  | n + 1 => words l n ++ [word4 (l.getD (4 * n) 0) (l.getD (4 * n + 1) 0) (l.getD (4 * n + 2) 0) (l.getD (4 * n + 3) 0)]

/-- A block pressed into a state. -/
def pressS (k : List W32) (s : St) (b : List UInt8) : St := s.add (steps k (growW (words b 16) 48) s 64)

@[simp] theorem words_length (l : List UInt8) (n : Nat) : (words l n).length = n := by induction n <;> simp [words, *]
@[simp] theorem growW_length (l : List W32) (n : Nat) : (growW l n).length = l.length + n := by induction n <;> simp [growW, *]; omega

theorem or_sum (a b i : Nat) (hb : b < 2 ^ i) : (a * 2 ^ i) ||| b = a * 2 ^ i + b := by
  have := Nat.shiftLeft_add_eq_or_of_lt hb a
  rw [Nat.shiftLeft_eq] at this
  exact this.symm

theorem u32_wrapN (a : Nat) (ha : a < 4294967296) : IntKind.u32.wrap (a : Int) = (a : Int) := by rw [IntKind.wrap_u32']; omega

theorem word4_toNat (a b c d : UInt8) : (word4 a b c d).toNat = a.toNat * 16777216 + b.toNat * 65536 + c.toNat * 256 + d.toNat := by
  have ha := a.toNat_lt
  have hb := b.toNat_lt
  have hc := c.toNat_lt
  have hd := d.toNat_lt
  unfold word4
  rw [BitVec.toNat_ofNat, Nat.mod_eq_of_lt (by omega)]

/-- The word as the program reckons it. -/
theorem word_or (a b c d : UInt8) : bits BinOp.or IntKind.u32 (bits BinOp.or IntKind.u32 (bits BinOp.or IntKind.u32 ((a.toNat : Int) * 16777216) ((b.toNat : Int) * 65536)) ((c.toNat : Int) * 256)) (d.toNat : Int) = ((word4 a b c d).toNat : Int) := by
  have ha := a.toNat_lt
  have hb := b.toNat_lt
  have hc := c.toNat_lt
  have hd := d.toNat_lt
  rw [show (a.toNat : Int) * 16777216 = ((a.toNat * 16777216 : Nat) : Int) by omega, show (b.toNat : Int) * 65536 = ((b.toNat * 65536 : Nat) : Int) by omega, show (c.toNat : Int) * 256 = ((c.toNat * 256 : Nat) : Int) by omega]
  rw [u32_or_nat _ _ (by omega) (by omega)]
  rw [show (a.toNat * 16777216) = (a.toNat * 2 ^ 24) by omega, or_sum _ _ 24 (by omega)]
  rw [u32_or_nat _ _ (by omega) (by omega)]
  rw [show (a.toNat * 2 ^ 24 + b.toNat * 65536) = ((a.toNat * 256 + b.toNat) * 2 ^ 16) by omega, or_sum _ _ 16 (by omega)]
  rw [u32_or_nat _ _ (by omega) (by omega)]
  rw [show ((a.toNat * 256 + b.toNat) * 2 ^ 16 + c.toNat * 256) = ((a.toNat * 65536 + b.toNat * 256 + c.toNat) * 2 ^ 8) by omega, or_sum _ _ 8 (by omega)]
  rw [word4_toNat]
  omega

theorem shr3_wd (x : W32) : (x.toNat : Int) / (8 : Int) = ((x >>> 3).toNat : Int) := shr_wd x 3
theorem shr10_wd (x : W32) : (x.toNat : Int) / (1024 : Int) = ((x >>> 10).toNat : Int) := shr_wd x 10

theorem turn_int (x : W32) (n : Nat) (k : Int) (X R : Nat) (hk : k = (n : Int)) (hX : X = x.toNat) (hR : R = (rr x n).toNat) (hn : 1 ≤ n) (hn' : n ≤ 31) (w : World) :
    Calls Try.prog 121 #[.int .u32 (X : Int), .int .i64 k] w fun e w' => e = .returned (.int .u32 (R : Int)) ∧ w' = w := by
  subst hk hX hR
  exact turn_any w x n hn hn'

theorem right_int (x : W32) (n : Nat) (k : Int) (X R : Nat) (hk : k = (n : Int)) (hX : X = x.toNat) (hR : R = (rr x n).toNat) (hn : 1 ≤ n) (hn' : n ≤ 31) (w : World) :
    Calls Try.prog 94 #[.int .u32 (X : Int), .int .u64 k] w fun e w' => e = .returned (.int .u32 (R : Int)) ∧ w' = w := by
  subst hk hX hR
  exact right_any w x n hn hn'

/-- Values in a block. -/
def CB (w : World) (e : TypeId) (g : Nat) (L : List Value) : Prop := w.heap[g]? = some (.cells L.toArray e (0, 0))

theorem CB.lt {w : World} {e : TypeId} {g : Nat} {L : List Value} (h : CB w e g L) : g < w.heap.size := lt_of_block h

theorem CB.cell {w : World} {e : TypeId} {g : Nat} {L : List Value} (h : CB w e g L) (k : Nat) (x : Value) (hx : L[k]? = some x) : w.cell? ⟨g, k, none⟩ = some x := by
  unfold CB at h
  simp [World.cell?, h, hx]

theorem CB.free {w : World} {e : TypeId} {g : Nat} {L : List Value} (h : CB w e g L) (k : Nat) : w.frozen? ⟨g, k, none⟩ = false := by
  unfold CB at h
  simp [World.frozen?, h]

theorem CB.set {w : World} {e : TypeId} {g : Nat} {L : List Value} (h : CB w e g L) (k : Nat) (x : Value) : CB (w.setCell ⟨g, k, none⟩ x) e g (L.set k x) := by
  have h' : w.heap[g]? = _ := h
  unfold CB
  rw [heap_setCell_same _ _ _ _ _ _ h']
  simp

theorem CB.other {w : World} {e : TypeId} {g : Nat} {L : List Value} (h : CB w e g L) {a : Addr} (ha : a.block ≠ g) (v : Value) : CB (w.setCell a v) e g L := by
  unfold CB
  rw [heap_setCell_other _ _ _ _ (fun e => ha e.symm)]
  exact h

theorem CB.fresh {w w' : World} {e : TypeId} {g : Nat} {L : List Value} (h : CB w e g L) (hb : Below w.heap.size w w') : CB w' e g L := by
  unfold CB
  rw [hb.block g h.lt]
  exact h

theorem CB.below {w w' : World} {e : TypeId} {g B : Nat} {L : List Value} (h : CB w e g L) (hb : Below B w w') (hg : g < B) : CB w' e g L := by
  unfold CB
  rw [hb.block g hg]
  exact h

theorem CB.drew {w : World} {e : TypeId} {g : Nat} {L : List Value} (h : CB w e g L) : CB w.drew e g L := h

theorem CB.new (w : World) (e : TypeId) (L : List Value) : CB (w.alloc (.cells L.toArray e)) e w.heap.size L := heap_alloc_new w _

theorem alloc_cb (w : World) (e : TypeId) (L : List Value) : ∃ w', w' = w.alloc (.cells L.toArray e) ∧ CB w' e w.heap.size L ∧ Below w.heap.size w w' ∧ w'.heap.size = w.heap.size + 1 :=
  ⟨_, rfl, CB.new w e L, (Below.refl _ w).alloc (Nat.le_refl _) _, Array.size_push _⟩

theorem CB.only {w w' : World} {e : TypeId} {g r : Nat} {L : List Value} (h : CB w e g L) (ho : Only r w w') (hne : g ≠ r) : CB w' e g L := by
  unfold CB
  rw [ho.block g hne]
  exact h

theorem wds_get (l : List W32) (k : Nat) (h : k < l.length) : (wds l)[k]? = some (wd (l.getD k 0)) := by
  simp [wds, List.getD_eq_getElem?_getD, h]

theorem wds_zero (l : List W32) (m k : Nat) (h : l.length ≤ k) (h' : k < l.length + m) : (wds (l ++ List.replicate m 0))[k]? = some (wd 0) := by
  have : k - l.length < m := by omega
  unfold wds
  rw [List.getElem?_map, List.getElem?_append_right h, List.getElem?_replicate_of_lt this]
  rfl

theorem wds_getL (l m : List W32) (k : Nat) (h : k < l.length) : (wds (l ++ m))[k]? = some (wd (l.getD k 0)) := by
  rw [wds_get _ _ (by simp; omega)]
  simp [List.getD_eq_getElem?_getD, List.getElem?_append_left h]

theorem wds_set (l : List W32) (k : Nat) (x : W32) : (wds l).set k (wd x) = wds (l.set k x) := by
  simp [wds, List.map_set]

/-- The next one is laid where zeros lie. -/
theorem set_next (l : List W32) (n : Nat) (x : W32) : (l ++ List.replicate (n + 1) 0).set l.length x = (l ++ [x]) ++ List.replicate n 0 := by
  rw [List.set_append_right _ _ (Nat.le_refl _)]
  simp [List.replicate_succ]

theorem getD_left (l m : List W32) (k : Nat) (h : k < l.length) : (l ++ m).getD k 0 = l.getD k 0 := by
  simp [List.getD_eq_getElem?_getD, List.getElem?_append_left h]

theorem put_word {wr : World} {t : TypeId} {b k : Nat} {l : List UInt8} (h : CB wr t b (wds (words l k ++ List.replicate (64 - k) 0))) (hk : k < 16) :
    CB (wr.setCell ⟨b, k, none⟩ (.int .u32 ((word4 (l.getD (4 * k) 0) (l.getD (4 * k + 1) 0) (l.getD (4 * k + 2) 0) (l.getD (4 * k + 3) 0)).toNat : Int))) t b (wds (words l (k + 1) ++ List.replicate (64 - (k + 1)) 0)) := by
  have h1 := h.set k (wd (word4 (l.getD (4 * k) 0) (l.getD (4 * k + 1) 0) (l.getD (4 * k + 2) 0) (l.getD (4 * k + 3) 0)))
  rw [wds_set, show 64 - k = (64 - (k + 1)) + 1 by omega] at h1
  have h2 := set_next (words l k) (64 - (k + 1)) (word4 (l.getD (4 * k) 0) (l.getD (4 * k + 1) 0) (l.getD (4 * k + 2) 0) (l.getD (4 * k + 3) 0))
  rw [words_length] at h2
  rw [h2] at h1
  exact h1

theorem put_next {wr : World} {t : TypeId} {b n i : Nat} {W0 M : List W32} (hM : M = growW W0 n) (h0 : W0.length = 16) (hi : i = 16 + n) (h : CB wr t b (wds (growW W0 n ++ List.replicate (48 - n) 0))) (hn : n < 48) (v : Int) (hv : v = ((nextW M).toNat : Int)) :
    CB (wr.setCell ⟨b, i, none⟩ (.int .u32 v)) t b (wds (growW W0 (n + 1) ++ List.replicate (48 - (n + 1)) 0)) := by
  subst hv hM
  have h1 := h.set i (wd (nextW (growW W0 n)))
  rw [wds_set, show 48 - n = (48 - (n + 1)) + 1 by omega] at h1
  have h2 := set_next (growW W0 n) (48 - (n + 1)) (nextW (growW W0 n))
  rw [growW_length, h0, ← hi] at h2
  rw [h2] at h1
  exact h1

theorem next_val (x y a b : W32) : (((a.toNat : Int) + bits BinOp.xor IntKind.u32 (bits BinOp.xor IntKind.u32 ((rr x 7).toNat : Int) ((rr x 18).toNat : Int)) ((x.toNat : Int) / 8) + (b.toNat : Int) + bits BinOp.xor IntKind.u32 (bits BinOp.xor IntKind.u32 ((rr y 17).toNat : Int) ((rr y 19).toNat : Int)) ((y.toNat : Int) / 1024)) % 4294967296) = ((a + sgA x + b + sgB y).toNat : Int) := by
  rw [shr3_wd, shr10_wd, xor_wd, xor_wd, xor_wd, xor_wd]
  change ((a.toNat : Int) + ((sgA x).toNat : Int) + (b.toNat : Int) + ((sgB y).toNat : Int)) % 4294967296 = _
  rw [BitVec.toNat_add, BitVec.toNat_add, BitVec.toNat_add]
  omega

theorem add_wrap (x y : W32) : IntKind.u32.wrap ((x.toNat : Int) + (y.toNat : Int)) = ((x + y).toNat : Int) := by
  rw [IntKind.wrap_u32', add_wd]

theorem not_wd (x : W32) : bits BinOp.xor IntKind.u32 (if IntKind.u32.signed = true then -1 else IntKind.u32.max) (x.toNat : Int) = ((~~~x).toNat : Int) := by
  have h : (if IntKind.u32.signed = true then (-1 : Int) else IntKind.u32.max) = ((BitVec.allOnes 32).toNat : Int) := by decide
  rw [h, xor_wd, BitVec.allOnes_xor]

theorem stepX_val (a b c d e f g h k w : W32) :
    IntKind.u32.wrap (IntKind.u32.wrap (IntKind.u32.wrap (IntKind.u32.wrap ((h.toNat : Int) + bits BinOp.xor IntKind.u32 (bits BinOp.xor IntKind.u32 ((rr e 6).toNat : Int) ((rr e 11).toNat : Int)) ((rr e 25).toNat : Int)) +
      bits BinOp.xor IntKind.u32 (bits BinOp.and IntKind.u32 (e.toNat : Int) (f.toNat : Int)) (bits BinOp.and IntKind.u32 (bits BinOp.xor IntKind.u32 (if IntKind.u32.signed = true then -1 else IntKind.u32.max) (e.toNat : Int)) (g.toNat : Int))) + (k.toNat : Int)) + (w.toNat : Int))
    = ((stepX k w ⟨a, b, c, d, e, f, g, h⟩).toNat : Int) := by
  rw [not_wd, xor_wd, xor_wd, and_wd, and_wd, xor_wd, add_wrap, add_wrap, add_wrap, add_wrap]
  rfl

theorem stepY_val (a b c d e f g h : W32) :
    IntKind.u32.wrap (bits BinOp.xor IntKind.u32 (bits BinOp.xor IntKind.u32 ((rr a 2).toNat : Int) ((rr a 13).toNat : Int)) ((rr a 22).toNat : Int) +
      bits BinOp.xor IntKind.u32 (bits BinOp.xor IntKind.u32 (bits BinOp.and IntKind.u32 (a.toNat : Int) (b.toNat : Int)) (bits BinOp.and IntKind.u32 (a.toNat : Int) (c.toNat : Int))) (bits BinOp.and IntKind.u32 (b.toNat : Int) (c.toNat : Int)))
    = ((stepY ⟨a, b, c, d, e, f, g, h⟩).toNat : Int) := by
  rw [xor_wd, xor_wd, and_wd, and_wd, and_wd, xor_wd, xor_wd, add_wrap]
  rfl

theorem stepA_val (k w a b c d e f g h : W32) :
    (((stepX k w ⟨a, b, c, d, e, f, g, h⟩).toNat : Int) + (bits BinOp.xor IntKind.u32 (bits BinOp.xor IntKind.u32 ((rr a 2).toNat : Int) ((rr a 13).toNat : Int)) ((rr a 22).toNat : Int) +
      bits BinOp.xor IntKind.u32 (bits BinOp.xor IntKind.u32 (bits BinOp.and IntKind.u32 (a.toNat : Int) (b.toNat : Int)) (bits BinOp.and IntKind.u32 (a.toNat : Int) (c.toNat : Int))) (bits BinOp.and IntKind.u32 (b.toNat : Int) (c.toNat : Int))) % 4294967296) % 4294967296
    = (((step k w ⟨a, b, c, d, e, f, g, h⟩).a).toNat : Int) := by
  have h1 := stepY_val a b c d e f g h
  rw [IntKind.wrap_u32'] at h1
  change _ = (((stepX k w ⟨a, b, c, d, e, f, g, h⟩ + stepY ⟨a, b, c, d, e, f, g, h⟩ : W32)).toNat : Int)
  rw [BitVec.toNat_add, h1]
  omega

/-- The first n are added to. -/
def mixL (X Y : List W32) (n : Nat) : List W32 := (List.zipWith (· + ·) X Y).take n ++ X.drop n

theorem mixL_length (X Y : List W32) (n : Nat) (h : X.length = Y.length) : (mixL X Y n).length = X.length := by
  simp [mixL, ← h]
  omega

theorem mixL_get (X Y : List W32) (n : Nat) (h : X.length = Y.length) (hn : n < X.length) : (wds (mixL X Y n))[n]? = some (wd (X.getD n 0)) := by
  have hl : ((List.zipWith (· + ·) X Y).take n).length = n := by simp [← h]; omega
  unfold wds mixL
  rw [List.getElem?_map, List.getElem?_append_right (by omega), hl]
  simp [List.getD_eq_getElem?_getD, hn]

theorem mixL_set (X Y : List W32) (n : Nat) (h : X.length = Y.length) (hn : n < X.length) : (mixL X Y n).set n (X.getD n 0 + Y.getD n 0) = mixL X Y (n + 1) := by
  have hl : ((List.zipWith (· + ·) X Y).take n).length = n := by simp [← h]; omega
  unfold mixL
  rw [List.set_append_right _ _ (by omega), hl, Nat.sub_self]
  rw [show X.drop n = X.getD n 0 :: X.drop (n + 1) by
    rw [List.drop_eq_getElem_cons hn]; simp [List.getD_eq_getElem?_getD, hn]]
  rw [List.set_cons_zero]
  rw [List.take_add_one]
  simp [List.getElem?_zipWith, List.getD_eq_getElem?_getD, hn, show n < Y.length by omega]

theorem put_mix {wr : World} {t : TypeId} {b n : Nat} {X Y : List W32} (hl : X.length = Y.length) (hn : n < X.length) (h : CB wr t b (wds (mixL X Y n))) (v : Int) (hv : v = ((X.getD n 0 + Y.getD n 0).toNat : Int)) :
    CB (wr.setCell ⟨b, n, none⟩ (.int .u32 v)) t b (wds (mixL X Y (n + 1))) := by
  subst hv
  have h1 := h.set n (wd (X.getD n 0 + Y.getD n 0))
  rw [wds_set, mixL_set X Y n hl hn] at h1
  exact h1

theorem mixL_all (s t : St) : mixL s.l t.l 8 = (s.add t).l := rfl

theorem results_cell1 {P : Program} {fn : Func} {p : Tmp} {ty : TypeId} (h : fn.results = #[.cell p ty]) (tmps : Array Value) (w : World) (g : Nat) (t : TypeId) (cs : Array Value) (fr : Nat × Nat) (d : TypeDesc)
    (hp : tmps.getD p undef = .pointer (some ⟨g, 0, none⟩)) (hg : w.heap[g]? = some (.cells cs t fr))
    (hu : P.underlying ty = some d) (hd : (match d with | .struct _ | .array _ _ => true | _ => false) = true) (hi : (P.info? ty).map (·.size) = some cs.size) :
    (results fn tmps).run P w = .ok (.agg cs) w := by
  have hp' : tmps[p]?.getD undef = .pointer (some ⟨g, 0, none⟩) := by simpa using hp
  simp [results, h, hp', asAddr, run_loadVar_row w g t ty cs fr d hg hu hd hi]

theorem infoW8 : (Try.prog.info? 99).map (·.size) = some 8 := by kernel_rfl
theorem infoW64 : (Try.prog.info? 128).map (·.size) = some 64 := by kernel_rfl

theorem CB.at {w : World} {e : TypeId} {g : Nat} {L : List Value} (h : CB w e g L) : At w g 0 L := At.block h

theorem notR_wd (x : W32) : IntKind.u32.wrap (4294967295 - (x.toNat : Int)) = ((~~~x).toNat : Int) := by
  have := x.isLt
  rw [IntKind.wrap_u32', BitVec.toNat_not]
  omega

theorem stepX_valR (a b c d e f g h k w : W32) :
    IntKind.u32.wrap (IntKind.u32.wrap (IntKind.u32.wrap (IntKind.u32.wrap ((h.toNat : Int) + bits BinOp.xor IntKind.u32 (bits BinOp.xor IntKind.u32 ((rr e 6).toNat : Int) ((rr e 11).toNat : Int)) ((rr e 25).toNat : Int)) +
      bits BinOp.xor IntKind.u32 (bits BinOp.and IntKind.u32 (e.toNat : Int) (f.toNat : Int)) (bits BinOp.and IntKind.u32 (IntKind.u32.wrap (4294967295 - (e.toNat : Int))) (g.toNat : Int))) + (k.toNat : Int)) + (w.toNat : Int))
    = ((stepX k w ⟨a, b, c, d, e, f, g, h⟩).toNat : Int) := by
  rw [notR_wd, xor_wd, xor_wd, and_wd, and_wd, xor_wd, add_wrap, add_wrap, add_wrap, add_wrap]
  rfl

theorem wds_one (l : List W32) : ∀ u ∈ wds l, u.oneCell' = true := by
  intro u hu
  simp only [wds, List.mem_map] at hu
  obtain ⟨x, _, rfl⟩ := hu
  rfl
end Go.Proofs.Ytkbahhnjoidhcaa

/- Long products, and the tests of roots. -/
namespace Go.Proofs.Ytkbahhnjoidhcaa
set_option linter.unusedVariables false
set_option linter.unusedSimpArgs false
open Go.RowKit Go.Lib

set_option maxHeartbeats 1000000 in
theorem mul64_any (w : World) (x y : Nat) (hx : x < 18446744073709551616) (hy : y < 18446744073709551616) :
    Calls Try.prog 118 #[.int .u64 x, .int .u64 y] w fun e w' => e = .returned (.tuple #[.int .u64 ((x * y / 18446744073709551616 : Nat) : Int), .int .u64 ((x * y % 18446744073709551616 : Nat) : Int)]) ∧ w' = w := by
  obtain ⟨bd, bt, bw, hhi⟩ := Lib.mul64_hi x y hx hy
  have ba := Lib.half_mul_le (a := x / 4294967296) (b := y / 4294967296) (by omega) (by omega)
  have bb := Lib.half_mul_le (a := x / 4294967296) (b := y % 4294967296) (by omega) (by omega)
  have bc := Lib.half_mul_le (a := x % 4294967296) (b := y / 4294967296) (by omega) (by omega)
  have ba' : x / 4294967296 * (y / 4294967296) < 18446744073709551616 := by omega
  have bb' : x / 4294967296 * (y % 4294967296) < 18446744073709551616 := by omega
  have bc' : x % 4294967296 * (y / 4294967296) < 18446744073709551616 := by omega
  have bh1 : x / 4294967296 * (y / 4294967296) + (x / 4294967296 * (y % 4294967296) + x % 4294967296 * (y % 4294967296) / 4294967296) / 4294967296 < 18446744073709551616 := by omega
  have bh : x / 4294967296 * (y / 4294967296) + (x / 4294967296 * (y % 4294967296) + x % 4294967296 * (y % 4294967296) / 4294967296) / 4294967296 + ((x / 4294967296 * (y % 4294967296) + x % 4294967296 * (y % 4294967296) / 4294967296) % 4294967296 + x % 4294967296 * (y / 4294967296)) / 4294967296 < 18446744073709551616 := by omega
  go_enter Try.func118, Try.ntmps118
  go_wp2
  simp only [Go.Proofs.Mul64.maskN x hx, Go.Proofs.Mul64.maskN y hy, Go.Proofs.Mul64.divN, Go.Proofs.Mul64.mulN, Go.Proofs.Mul64.addN, Go.Proofs.Mul64.wrapN _ bd, Go.Proofs.Mul64.wrapN _ bb', Go.Proofs.Mul64.wrapN _ bt, Go.Proofs.Mul64.maskN _ bt, Go.Proofs.Mul64.wrapN _ bc', Go.Proofs.Mul64.wrapN _ bw, Go.Proofs.Mul64.wrapN _ ba', Go.Proofs.Mul64.wrapN _ bh1, Go.Proofs.Mul64.wrapN _ bh, Go.Proofs.Mul64.wrapM (x * y)]
  rw [hhi]
  go_ret2
  exact ⟨rfl, rfl⟩

theorem add64_run (x y : Nat) (w : World) :
    (callFunc 119 #[.int .u64 (x : Int), .int .u64 (y : Int), .int .u64 0]).run Try.prog w =
      .ok (.value (.tuple #[.int .u64 (((x + y) % 18446744073709551616 : Nat) : Int), .int .u64 (((x + y) / 18446744073709551616 : Nat) : Int)])) w := by
  rw [run_callFunc_extern Try.func119 (by kernel_rfl) (by kernel_rfl) (by kernel_rfl) (e := add64Entry) (by kernel_rfl), run_add64 x y 0 (by omega) (by omega) (by omega) (by omega)]
  rfl

/-- Is x too great for the square root of p? -/
def sqG (p x : Nat) : Bool := decide (p < x * x / 18446744073709551616) || (decide (x * x / 18446744073709551616 = p) && decide (0 < x * x % 18446744073709551616))

theorem sqG_any (w : World) (b p x : Nat) (hx : x < 18446744073709551616) (hp : w.cell? ⟨b, 0, none⟩ = some (.int .u64 (p : Int))) :
    Calls Try.prog 120 #[.int .u64 (x : Int), .pointer (some ⟨b, 0, none⟩)] w fun e w' => e = .returned (.bool (sqG p x)) ∧ w' = w := by
  have C := fun w0 => mul64_any w0 x x hx hx
  unfold sqG
  obtain ⟨H, hH⟩ : ∃ H, H = x * x / 18446744073709551616 := ⟨_, rfl⟩
  obtain ⟨L, hL⟩ : ∃ L, L = x * x % 18446744073709551616 := ⟨_, rfl⟩
  rw [← hH, ← hL] at C ⊢
  clear hH hL
  by_cases h1 : p < H
  · have h1' : (p : Int) < (H : Int) := by omega
    have hb1 : decide (p < H) = true := by simpa using h1
    rw [hb1]
    go_enter Try.func120, Try.ntmps120
    go_wp2_with fail
    refine (C _).mono ?_
    rintro e w' ⟨rfl, rfl⟩
    go_wp2
    go_ret
    exact ⟨rfl, rfl⟩
  · have h1' : ¬ ((p : Int) < (H : Int)) := by omega
    have hb1 : decide (p < H) = false := by simpa using h1
    rw [hb1]
    by_cases h2 : H = p
    · have h2' : (H : Int) = (p : Int) := by omega
      have hb2 : decide (H = p) = true := by simpa using h2
      rw [hb2]
      subst h2
      clear h2' hb2
      go_enter Try.func120, Try.ntmps120
      go_wp2_with fail
      refine (C _).mono ?_
      rintro e w' ⟨rfl, rfl⟩
      go_wp2
      go_ret
      exact ⟨by simp, rfl⟩
    · have h2' : ¬ ((H : Int) = (p : Int)) := by omega
      have hb2 : decide (H = p) = false := by simpa using h2
      rw [hb2]
      go_enter Try.func120, Try.ntmps120
      go_wp2_with fail
      refine (C _).mono ?_
      rintro e w' ⟨rfl, rfl⟩
      go_wp2
      go_ret
      exact ⟨rfl, rfl⟩

/-- Is x too great for the cube root of p? -/
def cuC (x : Nat) : Nat := (x * x / 18446744073709551616 * x / 18446744073709551616 + (x * x % 18446744073709551616 * x / 18446744073709551616 + x * x / 18446744073709551616 * x % 18446744073709551616) / 18446744073709551616) % 18446744073709551616
def cuM (x : Nat) : Nat := (x * x % 18446744073709551616 * x / 18446744073709551616 + x * x / 18446744073709551616 * x % 18446744073709551616) % 18446744073709551616
def cuB (x : Nat) : Nat := x * x % 18446744073709551616 * x % 18446744073709551616
def cuG (p x : Nat) : Bool := decide (0 < cuC x) || (decide (p * 4294967296 < cuM x) || (decide (cuM x = p * 4294967296) && decide (0 < cuB x)))

set_option maxHeartbeats 1000000 in
theorem cuG_any (w : World) (b p x : Nat) (hx : x < 18446744073709551616) (hpp : p < 4294967296) (hp : w.cell? ⟨b, 0, none⟩ = some (.int .u64 (p : Int))) :
    Calls Try.prog 117 #[.int .u64 (x : Int), .pointer (some ⟨b, 0, none⟩)] w fun e w' => e = .returned (.bool (cuG p x)) ∧ w' = w := by
  have C1 := fun w0 => mul64_any w0 x x hx hx
  have C2 := fun w0 => mul64_any w0 (x * x % 18446744073709551616) x (by omega) hx
  have C3 := fun w0 => mul64_any w0 (x * x / 18446744073709551616) x (by have := Nat.mul_lt_mul'' hx hx; omega) hx
  have C4 := fun w0 => add64_run (x * x % 18446744073709551616 * x / 18446744073709551616) (x * x / 18446744073709551616 * x % 18446744073709551616) w0
  obtain ⟨V, hV⟩ : ∃ V, V = cuG p x := ⟨_, rfl⟩
  rw [← hV]
  unfold cuG cuC cuM cuB at hV
  obtain ⟨H, hH⟩ : ∃ H, H = x * x / 18446744073709551616 := ⟨_, rfl⟩
  obtain ⟨L, hL⟩ : ∃ L, L = x * x % 18446744073709551616 := ⟨_, rfl⟩
  rw [← hH, ← hL] at C1 hV C4
  rw [← hL] at C2
  rw [← hH] at C3
  obtain ⟨a, ha⟩ : ∃ v, v = L * x / 18446744073709551616 := ⟨_, rfl⟩
  obtain ⟨y, hy⟩ : ∃ v, v = L * x % 18446744073709551616 := ⟨_, rfl⟩
  obtain ⟨c, hc⟩ : ∃ v, v = H * x / 18446744073709551616 := ⟨_, rfl⟩
  obtain ⟨d, hd⟩ : ∃ v, v = H * x % 18446744073709551616 := ⟨_, rfl⟩
  rw [← ha, ← hy] at C2
  rw [← hc, ← hd] at C3
  rw [← ha, ← hd] at C4
  rw [← ha, ← hc, ← hd, ← hy] at hV
  obtain ⟨M, hM⟩ : ∃ v, v = (a + d) % 18446744073709551616 := ⟨_, rfl⟩
  obtain ⟨K, hK⟩ : ∃ v, v = (a + d) / 18446744073709551616 := ⟨_, rfl⟩
  rw [← hM, ← hK] at C4 hV
  obtain ⟨T, hT⟩ : ∃ v, v = (c + K) % 18446744073709551616 := ⟨_, rfl⟩
  obtain ⟨Q, hQ⟩ : ∃ v, v = p * 4294967296 := ⟨_, rfl⟩
  rw [← hT, ← hQ] at hV
  have gT : IntKind.u64.wrap ((c : Int) + (K : Int)) = (T : Int) := by rw [IntKind.wrap_u64]; omega
  have gQ : IntKind.u64.wrap ((p : Int) * 4294967296) = (Q : Int) := by rw [IntKind.wrap_u64]; omega
  have gP : (p : Int) / 4294967296 = 0 := by omega
  clear hH hL ha hy hc hd hM hK hT hQ
  have HV := Lib.hid hV; clear hV
  by_cases h1 : 0 < T
  · have h1' : (0 : Int) < (T : Int) := by omega
    have E : Hid (V = true) := by refine Lib.hid ?_; rw [HV.out]; simp [h1]
    go_enter Try.func117, Try.ntmps117
    go_wp2_with fail
    refine (C1 _).mono ?_
    rintro e w' ⟨rfl, rfl⟩
    go_wp2_with fail
    refine (C2 _).mono ?_
    rintro e w' ⟨rfl, rfl⟩
    go_wp2_with fail
    refine (C3 _).mono ?_
    rintro e w' ⟨rfl, rfl⟩
    go_wp2_with (simp only [C4])
    go_wp2
    go_ret
    exact ⟨by rw [E.out]; rfl, rfl⟩
  · have h1' : (T : Int) = 0 := by omega
    have h0 : T = 0 := by omega
    subst h0
    by_cases h2 : Q < M
    · have h2' : (Q : Int) < (M : Int) := by omega
      have E : Hid (V = true) := by refine Lib.hid ?_; rw [HV.out]; simp [h2]
      clear h1'
      go_enter Try.func117, Try.ntmps117
      go_wp2_with fail
      refine (C1 _).mono ?_
      rintro e w' ⟨rfl, rfl⟩
      go_wp2_with fail
      refine (C2 _).mono ?_
      rintro e w' ⟨rfl, rfl⟩
      go_wp2_with fail
      refine (C3 _).mono ?_
      rintro e w' ⟨rfl, rfl⟩
      go_wp2_with (simp only [C4])
      go_wp2
      go_ret
      exact ⟨by rw [E.out]; rfl, rfl⟩
    · have h2' : ¬ ((Q : Int) < (M : Int)) := by omega
      by_cases h3 : M = Q
      · have h3' : (M : Int) = (Q : Int) := by omega
        have E : Hid (V = decide (0 < y)) := by refine Lib.hid ?_; rw [HV.out]; simp [h3]
        subst h3
        clear h3' h1' 
        go_enter Try.func117, Try.ntmps117
        go_wp2_with fail
        refine (C1 _).mono ?_
        rintro e w' ⟨rfl, rfl⟩
        go_wp2_with fail
        refine (C2 _).mono ?_
        rintro e w' ⟨rfl, rfl⟩
        go_wp2_with fail
        refine (C3 _).mono ?_
        rintro e w' ⟨rfl, rfl⟩
        go_wp2_with (simp only [C4])
        go_wp2
        go_ret
        exact ⟨by rw [E.out]; rfl, rfl⟩
      · have h3' : ¬ ((M : Int) = (Q : Int)) := by omega
        have E : Hid (V = false) := by refine Lib.hid ?_; rw [HV.out]; simp [h2, h3]
        clear h1'
        go_enter Try.func117, Try.ntmps117
        go_wp2_with fail
        refine (C1 _).mono ?_
        rintro e w' ⟨rfl, rfl⟩
        go_wp2_with fail
        refine (C2 _).mono ?_
        rintro e w' ⟨rfl, rfl⟩
        go_wp2_with fail
        refine (C3 _).mono ?_
        rintro e w' ⟨rfl, rfl⟩
        go_wp2_with (simp only [C4])
        go_wp2
        go_ret
        exact ⟨by rw [E.out]; rfl, rfl⟩
end Go.Proofs.Ytkbahhnjoidhcaa

/- Roots, primes, the constants. -/
namespace Go.Proofs.Ytkbahhnjoidhcaa
set_option linter.unusedVariables false
set_option linter.unusedSimpArgs false
open Go.RowKit Go.Lib

def rootStep (G : Nat → Bool) (x i : Nat) : Nat := if G (x ||| 2 ^ (35 - i)) then x else x ||| 2 ^ (35 - i)

def rootN (G : Nat → Bool) : Nat → Nat
  | 0 => 0
  | n + 1 => rootStep G (rootN G n) n

theorem rootN_lt (G : Nat → Bool) (n : Nat) (h : n ≤ 36) : rootN G n < 2 ^ 36 := by
  induction n with
  | zero => simp [rootN]
  | succ n ih =>
    have ih := ih (by omega)
    have h2 : 2 ^ (35 - n) < 2 ^ 36 := Nat.pow_lt_pow_right (by omega) (by omega)
    unfold rootN rootStep
    split
    · exact ih
    · exact Nat.or_lt_two_pow ih h2

theorem root_any (w : World) (G : Nat → Bool) (fv : FuncId) (cap : Value) (hen : ∀ args w, (callFunc fv args).run Try.prog w = .ok (.enter fv args) w)
    (C : ∀ x : Nat, x < 2 ^ 36 → Calls Try.prog fv #[.int .u64 (x : Int), cap] w fun e w' => e = .returned (.bool (G x)) ∧ w' = w) :
    Calls Try.prog 116 #[.func (.func fv) #[] #[cap]] w fun e w' => e = .returned (.int .u64 (rootN G 36 : Int)) ∧ w' = w := by
  have HC := Lib.hid C; clear C
  obtain ⟨R, hR⟩ : ∃ R, R = rootN G 36 := ⟨_, rfl⟩
  rw [← hR]
  have HR := Lib.hid hR; clear hR
  go_enter Try.func116, Try.ntmps116
  go_wp2
  go_loopw [3, 6] (fun v3 v6 wr => wr = w ∧ ∃ k : Nat, k ≤ 36 ∧ v6 = .int .i64 (k : Int) ∧ v3 = .int .u64 (rootN G k : Int))
    (fun _ v _ => 36 - (intOf v).toNat)
  case atStart => exact ⟨rfl, 0, by omega, rfl, rfl⟩
  case round =>
    obtain ⟨rfl, k, hk, rfl, rfl⟩ := hrel
    by_cases hlt : k < 36
    · obtain ⟨x, hx⟩ : ∃ x, x = rootN G k := ⟨_, rfl⟩
      obtain ⟨e, he⟩ : ∃ e, e = 35 - k := ⟨_, rfl⟩
      obtain ⟨Z, hZ⟩ : ∃ Z, Z = 2 ^ e := ⟨_, rfl⟩
      obtain ⟨Y, hY⟩ : ∃ Y, Y = x ||| Z := ⟨_, rfl⟩
      have hx36 : x < 2 ^ 36 := by rw [hx]; exact rootN_lt G k hk
      have hz36 : Z < 2 ^ 36 := by rw [hZ]; exact Nat.pow_lt_pow_right (by omega) (by omega)
      have hy36 : Y < 2 ^ 36 := by rw [hY]; exact Nat.or_lt_two_pow hx36 hz36
      have g1 : IntKind.i64.wrap (35 - (k : Int)) = (e : Int) := by rw [IntKind.wrap_i64]; omega
      have g2 : IntKind.u64.wrap (2 ^ min e 64) = (Z : Int) := by
        have : min e 64 = e := by omega
        rw [this, hZ, IntKind.wrap_u64]
        have h3 : ((2 ^ e : Nat) : Int) = 2 ^ e := by simp
        rw [← h3]
        rw [← hZ]
        omega
      have g3 : bits BinOp.or IntKind.u64 (x : Int) (Z : Int) = (Y : Int) := by
        rw [bits_or_u64_nat _ _ (by omega) (by omega), hY]
      have g4 : (0 : Int) ≤ (e : Int) := by omega
      rw [← hx]
      have CY := HC.out Y hy36
      have E := Lib.hid (And.intro hx (And.intro he (And.intro hZ hY)))
      clear hx he hZ hY hx36 hz36 hy36
      cases hg : G Y
      · rw [hg] at CY
        have HG := Lib.hid hg; clear hg
        go_wp2_with fail
        refine CY.mono ?_
        rintro e' w' ⟨rfl, rfl⟩
        go_wp2
        go_roundw
        case rel =>
          refine ⟨trivial, k + 1, by omega, by go_num, ?_⟩
          obtain ⟨hx, he, hZ, hY⟩ := E.out
          have : rootN G (k + 1) = Y := by
            show rootStep G (rootN G k) k = Y
            unfold rootStep
            rw [← hx, ← he, ← hZ, ← hY, HG.out]
            rfl
          rw [this]
        case measure =>
          simp only [intOf]
          omega
      · rw [hg] at CY
        have HG := Lib.hid hg; clear hg
        go_wp2_with fail
        refine CY.mono ?_
        rintro e' w' ⟨rfl, rfl⟩
        go_wp2
        go_roundw
        case rel =>
          refine ⟨trivial, k + 1, by omega, by go_num, ?_⟩
          obtain ⟨hx, he, hZ, hY⟩ := E.out
          have : rootN G (k + 1) = x := by
            show rootStep G (rootN G k) k = x
            unfold rootStep
            rw [← hx, ← he, ← hZ, ← hY, HG.out]
            rfl
          rw [this]
        case measure =>
          simp only [intOf]
          omega
    · have hk36 : k = 36 := by omega
      have HK := Lib.hid hk36; clear hk36
      go_wp2
      go_ret
      refine ⟨?_, rfl⟩
      rw [HR.out, ← HK.out]
      rfl

theorem cell0_alloc (w : World) (x : Value) (t : TypeId) : (w.alloc (.cells #[x] t)).cell? ⟨w.heap.size, 0, none⟩ = some x :=
  CB.cell (CB.new w t [x]) 0 x rfl

theorem square_any (w : World) (p : Nat) :
    Calls Try.prog 108 #[.int .u64 (p : Int)] w fun e w' => e = .returned (wd (BitVec.ofNat 32 (rootN (sqG p) 36))) ∧ Below w.heap.size w w' := by
  go_enter Try.func108, Try.ntmps108
  go_wp2_with fail
  refine (root_any _ (sqG p) 120 _ (enters_of Try.func120 (by kernel_rfl) rfl) (fun x hx => sqG_any _ w.heap.size p x (by omega) ?_)).mono ?_
  · exact cell0_alloc _ _ _
  rintro e w' ⟨rfl, rfl⟩
  go_wp2
  go_ret
  refine ⟨?_, (Below.refl _ w).alloc (Nat.le_refl _) _⟩
  unfold wd
  rw [BitVec.toNat_ofNat]
  rfl

theorem cube_any (w : World) (p : Nat) (hp : p < 4294967296) :
    Calls Try.prog 107 #[.int .u64 (p : Int)] w fun e w' => e = .returned (wd (BitVec.ofNat 32 (rootN (cuG p) 36))) ∧ Below w.heap.size w w' := by
  go_enter Try.func107, Try.ntmps107
  go_wp2_with fail
  refine (root_any _ (cuG p) 117 _ (enters_of Try.func117 (by kernel_rfl) rfl) (fun x hx => cuG_any _ w.heap.size p x (by omega) hp ?_)).mono ?_
  · exact cell0_alloc _ _ _
  rintro e w' ⟨rfl, rfl⟩
  go_wp2
  go_ret
  refine ⟨?_, (Below.refl _ w).alloc (Nat.le_refl _) _⟩
  unfold wd
  rw [BitVec.toNat_ofNat]
  rfl
end Go.Proofs.Ytkbahhnjoidhcaa

/- The first primes: the walk. -/
namespace Go.Proofs.Ytkbahhnjoidhcaa
set_option linter.unusedVariables false
set_option linter.unusedSimpArgs false
open Go.RowKit Go.Lib

def divs (l : List Nat) (x : Nat) : Bool := l.any fun p => x % p == 0

/-- The primes among 2 .. n + 1. -/
def pr : Nat → List Nat
  | 0 => []
  | n + 1 => if divs (pr n) (n + 2) then pr n else pr n ++ [n + 2]

theorem pr_prefix (x d : Nat) : ∃ t, pr (x + d) = pr x ++ t := by
  induction d with
  | zero => exact ⟨[], by simp⟩
  | succ d ih =>
    obtain ⟨t, ht⟩ := ih
    rw [show x + (d + 1) = (x + d) + 1 by omega, show pr (x + d + 1) = if divs (pr (x + d)) (x + d + 2) then pr (x + d) else pr (x + d) ++ [x + d + 2] from rfl]
    split
    · exact ⟨t, ht⟩
    · exact ⟨t ++ [x + d + 2], by rw [ht]; simp⟩

theorem pr_le (x B : Nat) (h : x ≤ B) : (pr x).length ≤ (pr B).length := by
  obtain ⟨t, ht⟩ := pr_prefix x (B - x)
  rw [show x + (B - x) = B by omega] at ht
  rw [ht]; simp

theorem pr_eq (x B : Nat) (h : x ≤ B) (hl : (pr B).length ≤ (pr x).length) : pr x = pr B := by
  obtain ⟨t, ht⟩ := pr_prefix x (B - x)
  rw [show x + (B - x) = B by omega] at ht
  have hl0 : t.length = 0 := by rw [ht] at hl; rw [List.length_append] at hl; omega
  rw [ht, List.eq_nil_of_length_eq_zero hl0, List.append_nil]

theorem pr_bound (n : Nat) : ∀ p ∈ pr n, 2 ≤ p ∧ p ≤ n + 1 := by
  induction n with
  | zero => intro p hp; cases hp
  | succ n ih =>
    intro p hp
    unfold pr at hp
    split at hp
    · have := ih p hp; omega
    · rcases List.mem_append.1 hp with h | h
      · have := ih p h; omega
      · simp at h; omega

theorem pr_len (n : Nat) : (pr n).length ≤ n := by
  induction n with
  | zero => simp [pr]
  | succ n ih =>
    unfold pr
    split
    · omega
    · simp; omega

def nv (x : Nat) : Value := .int .u64 (x : Int)
def ns (l : List Nat) : List Value := l.map nv

@[simp] theorem ns_length (l : List Nat) : (ns l).length = l.length := by simp [ns]

theorem ns_get (l : List Nat) (k : Nat) (h : k < l.length) : (ns l)[k]? = some (nv (l.getD k 0)) := by
  simp [ns, List.getD_eq_getElem?_getD, h]

theorem ns_one (l : List Nat) : ∀ u ∈ ns l, u.oneCell' = true := by
  intro u hu
  simp only [ns, List.mem_map] at hu
  obtain ⟨x, _, rfl⟩ := hu
  rfl

theorem infoU64 : (Try.prog.info? 25).map (fun i => (i.zero, i.size, i.bytes)) = some (some (.int .u64 0), 1, 8) := by kernel_rfl

theorem rd_one (w : World) (x : Value) (t : TypeId) : Rd (w.alloc (.cells #[x] t)) 1 (.slice (some ⟨w.heap.size, 0, none⟩) 1 1) 1 [x] := by
  refine ⟨rfl, .inr ⟨⟨w.heap.size, 0, none⟩, 1, rfl, Nat.le_refl _, by decide, fun j u hj => ?_⟩⟩
  rcases j with _ | j
  · simp only [List.getElem?_cons_zero, Option.some.injEq] at hj
    subst hj
    exact cell0_alloc _ _ _
  · simp at hj

theorem own_base {w : World} {base : Nat} {e : TypeId} {size : Nat} {v : Value} {n : Nat} {xs : List Value} (h : w.ownsRow base e size v n xs) : ∀ k, v.ownBlock = some k → base ≤ k := by
  intro k hk
  rcases h.2 with ⟨rfl, _⟩ | ⟨g, cap, cur, rfl, hbg, _⟩
  · simp [Value.ownBlock] at hk
  · simp [Value.ownBlock] at hk
    omega

set_option maxRecDepth 100000 in
set_option maxHeartbeats 400000 in
theorem primes_any (w : World) (N B : Nat) (hB : (pr B).length = N) (hs : B ≤ 1000) :
    Calls Try.prog 106 #[.int .i64 (N : Int)] w fun e w' => ∃ v, e = .returned v ∧ Rd w' 1 v N (ns (pr B)) ∧ (∀ k, v.ownBlock = some k → w.heap.size ≤ k) ∧ Below w.heap.size w w' := by
  obtain ⟨i0, hi, hz0, hz1, hz2⟩ := info_parts infoU64
  have HB := Lib.hid hB; clear hB
  go_enter Try.func106, Try.ntmps106
  go_wp2
  go_step3
  go_wp2
  go_step3
  go_wp2
  go_loopw [3, 4] (fun v3 v4 wr => ∃ x : Nat, x ≤ B ∧ v4 = .int .u64 ((x + 2 : Nat) : Int) ∧ wr.ownsRow w.heap.size 25 1 v3 (pr x).length (ns (pr x)) ∧ Below w.heap.size w wr)
    (fun _ v _ => B + 3 - (intOf v).toNat)
  case atStart => exact ⟨0, by omega, rfl, by simpa [pr, ns] using World.ownsRow_nil _ _ _ _, Below.refl _ _⟩
  case round =>
    obtain ⟨x, hx, rfl, ho, hb⟩ := hrel
    obtain ⟨a3, c3, rfl⟩ := own_slice ho
    have Hb := Lib.hid hb; clear hb
    have hll := pr_len x
    obtain ⟨M, hM⟩ : ∃ M, M = (pr x).length := ⟨_, rfl⟩
    have hM' : M ≤ 1000 := by omega
    have HM := Lib.hid hM
    rw [← hM] at ho ⊢
    have Ho := Lib.hid ho; clear ho
    clear hM hll
    obtain ⟨y, hy⟩ : ∃ y, y = x + 2 := ⟨_, rfl⟩
    rw [← hy]
    have HY := Lib.hid hy; clear hy
    by_cases hlt : M < N
    · have hxB : Hid (x < B) := by
        refine Lib.hid ?_
        rcases Nat.lt_or_ge x B with h | h
        · exact h
        · have : x = B := by omega
          have h1 := HM.out
          have h2 := HB.out
          rw [this] at h1
          omega
      rename World => wr0
      go_wp2
      go_loopw [15] (fun v15 wr => wr = wr0 ∧ ∃ k : Nat, k ≤ M ∧ v15 = .int .i64 (k : Int) ∧ ∀ j, j < k → y % (pr x).getD j 0 ≠ 0)
        (fun v _ => M - (intOf v).toNat)
      case atStart => exact ⟨rfl, 0, by omega, rfl, fun j hj => by omega⟩
      case round =>
        obtain ⟨rfl, k, hk, rfl, hnd⟩ := hrel
        have Hnd := Lib.hid hnd; clear hnd
        by_cases hkM : k < M
        · rcases (Rd.of_own Ho.out).2 with ⟨he, h0⟩ | ⟨ad, c', he, _, _, hcell⟩
          · have := HM.out; omega
          simp only [Value.slice.injEq, true_and] at he
          obtain ⟨rfl, rfl⟩ := he
          obtain ⟨q, hq⟩ : ∃ q, q = (pr x).getD k 0 := ⟨_, rfl⟩
          have fk : wr.cell? (ad.add k) = some (.int .u64 (q : Int)) := by
            rw [hq]
            exact hcell k _ (ns_get _ _ (by have := HM.out; omega))
          have hq2 : 2 ≤ q := by
            rw [hq]
            refine (pr_bound x _ ?_).1
            have : k < (pr x).length := by have := HM.out; omega
            simp [List.getD_eq_getElem?_getD, this]
          have bk : (k : Int) < (M : Int) := by omega
          have hq0 : ¬ ((q : Int) = 0) := by omega
          obtain ⟨Z, hZ⟩ : ∃ Z, Z = y % q := ⟨_, rfl⟩
          have g1 : (y : Int).tmod (q : Int) = (Z : Int) := by rw [hZ]; exact (Int.ofNat_tmod y q).symm
          have HZ := Lib.hid hZ
          have HQ := Lib.hid hq
          clear hZ hq hcell
          by_cases hz : Z = 0
          · subst hz
            go_wp2
            go_roundw
            case rel =>
              have hd : divs (pr x) (x + 2) = true := by
                have hk' : k < (pr x).length := by have := HM.out; omega
                unfold divs
                rw [List.any_eq_true]
                refine ⟨(pr x)[k], List.getElem_mem hk', ?_⟩
                have h1 := HZ.out
                rw [HQ.out, HY.out] at h1
                simp [List.getD_eq_getElem?_getD, hk'] at h1
                simp [← h1]
              have hp : pr (x + 1) = pr x := by
                show (if divs (pr x) (x + 2) then pr x else _) = _
                rw [if_pos hd]
              refine ⟨x + 1, hxB.out, ?_, ?_, Hb.out⟩
              · have := HY.out
                rw [IntKind.wrap_u64]
                simp only [Value.int.injEq, true_and]
                omega
              · rw [hp, ← HM.out]
                exact Ho.out
            case measure =>
              have := HY.out
              have := hxB.out
              simp only [intOf]
              rw [IntKind.wrap_u64]
              omega
          · have hzi : ¬ ((Z : Int) = 0) := by omega
            go_wp2
            go_roundw
            case rel =>
              refine ⟨trivial, k + 1, by omega, by go_num, fun j hj => ?_⟩
              rcases Nat.lt_or_ge j k with h | h
              · exact Hnd.out j h
              · have : j = k := by omega
                rw [this, ← HQ.out, ← HZ.out]
                exact hz
            case measure =>
              simp only [intOf]
              omega
        · have hkk : k = M := by omega
          have HK := Lib.hid hkk; clear hkk
          go_wp2_with (at_builtin; apply Stop.mk)
          refine Stop.go ?_
          have h63 : M + 1 ≤ maxLen := by unfold maxLen; omega
          have hbs : w.heap.size ≤ (wr.alloc (.cells #[.int .u64 (y : Int)] 25)).heap.size := by
            have h1 := Hb.out.size
            have h2 : (wr.alloc (.cells #[.int .u64 (y : Int)] 25)).heap.size = wr.heap.size + 1 := Array.size_push _
            omega
          refine wpList_append_rd _ rfl (.tmp 24) (.tmp 26) 75 rfl w.heap.size 25 i0 (.int .u64 0) 1 8 Try.underlying75 hi hz0 hz1 hz2 rfl (by decide) (.slice a3 M c3) M (ns (pr x)) rfl (Ho.out.alloc _) _ 1 [nv y] rfl (rd_one wr _ _) (ns_one [y]) h63 (by omega) hbs ?_
          intro v' w' hown hgr _ hgrew
          have Hbl : Hid (Below w.heap.size w w') := Below.grown (Hb.out.alloc Hb.out.size _) hgr hbs (own_base Ho.out)
          have Hown := Lib.hid hown
          clear hown hgr hgrew hbs h63
          go_wp2
          go_roundw
          case rel =>
            have hd : divs (pr x) (x + 2) = false := by
              rw [← Bool.not_eq_true]
              intro h
              unfold divs at h
              rw [List.any_eq_true] at h
              obtain ⟨q, hq, hz⟩ := h
              obtain ⟨j, hj, rfl⟩ := List.getElem_of_mem hq
              have h1 := Hnd.out j (by have := HK.out; have := HM.out; omega)
              rw [HY.out] at h1
              simp [List.getD_eq_getElem?_getD, hj] at h1
              simp at hz
              exact h1 hz
            have hp : pr (x + 1) = pr x ++ [x + 2] := by
              show (if divs (pr x) (x + 2) then pr x else _) = _
              rw [hd]
              rfl
            refine ⟨x + 1, hxB.out, ?_, ?_, Hbl.out⟩
            · have := HY.out
              rw [IntKind.wrap_u64]
              simp only [Value.int.injEq, true_and]
              omega
            · rw [hp]
              have h1 := Hown.out
              rw [HM.out, HY.out] at h1
              simpa [ns] using h1
          case measure =>
            have := HY.out
            have := hxB.out
            simp only [intOf]
            rw [IntKind.wrap_u64]
            omega
    · have hNM : (pr x).length = N := by
        have h1 := pr_le x B hx
        have := HM.out
        have := HB.out
        omega
      obtain rfl : M = N := by have := HM.out; omega
      have hpe : pr x = pr B := pr_eq x B hx (by rw [hNM, HB.out]; exact Nat.le_refl _)
      have HP := Lib.hid hpe
      have HN := Lib.hid hNM
      clear hNM hpe
      go_wp2
      rw [Exit.noGoto_ret]
      go_ret
      refine ⟨_, rfl, ?_, own_base Ho.out, Hb.out⟩
      have h1 := Rd.of_own Ho.out
      rw [HP.out] at h1
      exact h1
end Go.Proofs.Ytkbahhnjoidhcaa

/- The tables: what the roots come to. -/
namespace Go.Proofs.Ytkbahhnjoidhcaa
set_option linter.unusedVariables false
set_option linter.unusedSimpArgs false

def KS : List W32 := [
  0x428a2f98, 0x71374491, 0xb5c0fbcf, 0xe9b5dba5, 0x3956c25b, 0x59f111f1, 0x923f82a4, 0xab1c5ed5,
  0xd807aa98, 0x12835b01, 0x243185be, 0x550c7dc3, 0x72be5d74, 0x80deb1fe, 0x9bdc06a7, 0xc19bf174,
  0xe49b69c1, 0xefbe4786, 0x0fc19dc6, 0x240ca1cc, 0x2de92c6f, 0x4a7484aa, 0x5cb0a9dc, 0x76f988da,
  0x983e5152, 0xa831c66d, 0xb00327c8, 0xbf597fc7, 0xc6e00bf3, 0xd5a79147, 0x06ca6351, 0x14292967,
  0x27b70a85, 0x2e1b2138, 0x4d2c6dfc, 0x53380d13, 0x650a7354, 0x766a0abb, 0x81c2c92e, 0x92722c85,
  0xa2bfe8a1, 0xa81a664b, 0xc24b8b70, 0xc76c51a3, 0xd192e819, 0xd6990624, 0xf40e3585, 0x106aa070,
  0x19a4c116, 0x1e376c08, 0x2748774c, 0x34b0bcb5, 0x391c0cb3, 0x4ed8aa4a, 0x5b9cca4f, 0x682e6ff3,
  0x748f82ee, 0x78a5636f, 0x84c87814, 0x8cc70208, 0x90befffa, 0xa4506ceb, 0xbef9a3f7, 0xc67178f2]

def S0 : St := ⟨0x6a09e667, 0xbb67ae85, 0x3c6ef372, 0xa54ff53a, 0x510e527f, 0x9b05688c, 0x1f83d9ab, 0x5be0cd19⟩

def primes64 : List Nat := [2, 3, 5, 7, 11, 13, 17, 19, 23, 29, 31, 37, 41, 43, 47, 53, 59, 61, 67, 71, 73, 79, 83, 89, 97, 101, 103, 107, 109, 113, 127, 131, 137, 139, 149, 151, 157, 163, 167, 173, 179, 181, 191, 193, 197, 199, 211, 223, 227, 229, 233, 239, 241, 251, 257, 263, 269, 271, 277, 281, 283, 293, 307, 311]

def cubeW (p : Nat) : W32 := BitVec.ofNat 32 (rootN (cuG p) 36)
def squareW (p : Nat) : W32 := BitVec.ofNat 32 (rootN (sqG p) 36)

theorem pr64 : pr 310 = primes64.take 64 := by decide +kernel
theorem pr8 : pr 18 = primes64.take 8 := by decide +kernel
theorem cubes_ok : primes64.map cubeW = KS := by decide +kernel
theorem squares_ok : (primes64.take 8).map squareW = S0.l := by decide +kernel
end Go.Proofs.Ytkbahhnjoidhcaa

/- The constants and the start: the walks. -/
namespace Go.Proofs.Ytkbahhnjoidhcaa
set_option linter.unusedVariables false
set_option linter.unusedSimpArgs false
open Go.RowKit Go.Lib

set_option maxRecDepth 100000 in
set_option maxHeartbeats 400000 in
theorem constants_any (w : World) :
    Calls Try.prog 90 #[] w fun e w' => e = .returned (.agg (wds KS).toArray) ∧ Below w.heap.size w w' := by
  have hLl : KS.length = 64 := rfl
  have hPl : (primes64.take 64).length = 64 := rfl
  have hPget : ∀ k, k < 64 → (primes64.take 64).getD k 0 < 1000 ∧ cubeW ((primes64.take 64).getD k 0) = KS.getD k 0 := by
    intro k hk
    have h1 := cubes_ok
    refine ⟨?_, ?_⟩
    · revert k; decide +kernel
    · rw [← h1]
      simp [List.getD_eq_getElem?_getD, hk, hPl]
      try (rw [List.getElem?_eq_getElem (by rw [show primes64.length = 64 from rfl]; omega)]; rfl)
  have CP := fun w0 => primes_any w0 64 310 (by rw [pr64]; rfl) (by omega)
  rw [pr64] at CP
  have HL := Lib.hid hLl
  have HG := Lib.hid hPget
  have CP := Lib.hid CP
  clear hLl hPl hPget
  obtain ⟨PL, hPL⟩ : ∃ l, l = primes64.take 64 := ⟨_, rfl⟩
  obtain ⟨L, hL⟩ : ∃ l, l = KS := ⟨_, rfl⟩
  rw [← hPL] at HG CP
  rw [← hL] at HG HL ⊢
  have hPl : PL.length = 64 := by rw [hPL]; rfl
  clear hPL hL
  have HPL := Lib.hid hPl; clear hPl
  go_enter Try.func90, Try.ntmps90
  go_wp2_with fail
  obtain ⟨wa, ha, hak, hab, has⟩ := alloc_cb w 128 (wds (List.replicate 64 0))
  change Calls _ _ _ (w.alloc (.cells (wds (List.replicate 64 0)).toArray 128)) _
  rw [← ha]
  clear ha
  refine (CP.out wa).mono ?_
  rintro e w1 ⟨v, rfl, hr, hown, hb⟩
  obtain ⟨N, hN⟩ : ∃ N, N = w.heap.size := ⟨_, rfl⟩
  rw [← hN] at hak hab has ⊢
  have hz := hak.fresh hb
  have hB1 : Below N w w1 := hab.trans (hb.mono (by omega))
  have hne : v.ownBlock ≠ some N := fun h => by have := hown N h; omega
  have HR := Lib.hid hr
  have HZ := Lib.hid hz
  have HB1 := Lib.hid hB1
  have HNE := Lib.hid hne
  have HN := Lib.hid hN
  clear hr hown hb hz hB1 hne hak hab has hN
  rcases HR.out.2 with ⟨_, h0⟩ | ⟨ad, c, hv, _, _, _⟩
  · omega
  subst hv
  go_wp2
  go_loopw [5] (fun v5 wr => ∃ m : Nat, m ≤ 64 ∧ v5 = .int .i64 (m : Int) ∧ CB wr 128 N (wds (L.take m ++ List.replicate (64 - m) 0)) ∧ Rd wr 1 (.slice (some ad) 64 c) 64 (ns PL) ∧ Below N w wr)
    (fun v _ => 64 - (intOf v).toNat)
  case atStart => exact ⟨0, by omega, rfl, by simpa using HZ.out, HR.out, HB1.out⟩
  case round =>
    clear HZ HR HB1
    obtain ⟨m, hm, rfl, h1, h2, h3⟩ := hrel
    have H1 := Lib.hid h1
    have H2 := Lib.hid h2
    have H3 := Lib.hid h3
    clear h1 h2 h3
    by_cases hlt : m < 64
    · rcases H2.out.2 with ⟨_, h0⟩ | ⟨ad', c', he, _, _, hcell⟩
      · omega
      simp only [Value.slice.injEq, true_and, Option.some.injEq] at he
      obtain ⟨rfl, rfl⟩ := he
      obtain ⟨q, hq⟩ : ∃ q, q = PL.getD m 0 := ⟨_, rfl⟩
      have fk : wr.cell? (ad.add m) = some (.int .u64 (q : Int)) := by
        rw [hq]
        exact hcell m _ (ns_get _ _ (by have := HPL.out; omega))
      have hqq := HG.out m hlt
      rw [← hq] at hqq
      have bk : (m : Int) < 64 := by omega
      have C := fun w0 => cube_any w0 q (by omega)
      rw [show BitVec.ofNat 32 (rootN (cuG q) 36) = L.getD m 0 from hqq.2] at C
      obtain ⟨x, hx⟩ : ∃ x, x = L.getD m 0 := ⟨_, rfl⟩
      rw [← hx] at C
      obtain ⟨X, hX⟩ : ∃ n, n = x.toNat := ⟨_, rfl⟩
      unfold wd at C
      rw [← hX] at C
      have hl0 : (L.take m).length = m := by rw [List.length_take]; have := HL.out; omega
      have CC := Lib.hid C
      have E := Lib.hid (And.intro hx (And.intro hX hl0))
      clear hcell hqq C hx hX hq hl0
      rename World => wO
      go_wp2_with fail
      refine (CC.out _).mono ?_
      rintro e w2 ⟨rfl, hb2⟩
      have h1 := H1.out.fresh hb2
      have h2 := H2.out.fresh hb2
      have h3 := H3.out.trans (hb2.mono (by have := H3.out.size; have := HN.out; omega))
      have fc := h1.cell m (wd 0) (wds_zero _ _ _ (by rw [E.out.2.2]; omega) (by rw [E.out.2.2]; omega))
      have ff := h1.free m
      unfold wd at fc
      have K1 := Lib.hid h1
      have K2 := Lib.hid h2
      have K3 := Lib.hid h3
      clear h1 h2 h3 hb2
      go_wp2
      go_roundw
      case rel =>
        refine ⟨m + 1, by omega, by go_num, ?_, K2.out.setCell HNE.out _, K3.out.setCell (Nat.le_refl _) _⟩
        have h1 := K1.out.set m (wd x)
        rw [wds_set, show 64 - m = (64 - (m + 1)) + 1 by omega] at h1
        have h2 := set_next (L.take m) (64 - (m + 1)) x
        rw [E.out.2.2] at h2
        rw [h2] at h1
        have h4 : L.take m ++ [x] = L.take (m + 1) := by
          rw [E.out.1, List.take_add_one]
          have : m < L.length := by rw [HL.out]; exact hlt
          simp [List.getD_eq_getElem?_getD, this]
        rw [h4] at h1
        rw [E.out.2.1]
        exact h1
      case measure =>
        simp only [intOf]
        omega
    · have hm64 : m = 64 := by omega
      have h1 := H1.out
      rw [hm64, List.take_of_length_le (by rw [HL.out]; exact Nat.le_refl _), Nat.sub_self, List.replicate_zero, List.append_nil] at h1
      have K1 := Lib.hid h1
      have HM := Lib.hid hm64
      clear h1 hm64 H1 H2
      go_wp2_with (with_reducible refine stopAt 15 ?_)
      refine Stop.go ?_
      refine wpList_load_agg rfl 128 (.tmp 0) rfl ⟨N, 0, none⟩ rfl (wds L) _ K1.out.at.load Try.underlying128 rfl (by rw [wds_length, HL.out]; exact infoW64) ?_
      go_wp2_with (with_reducible refine stopStore 128 ?_)
      refine Stop.go ?_
      refine wpList_store_var rfl 128 (.tmp 0) (.tmp 15) rfl N _ rfl _ (wds L) rfl K1.out (by simp [wds_length]) (wds_one _) (by rw [wds_length, HL.out]; exact infoW64) ?_
      intro w9 hb9 ho9
      have B9 : Below N w w9 := Below.only H3.out ho9 (Nat.le_refl _)
      rw [HN.out] at B9
      have HB9 := Lib.hid hb9
      have HBL := Lib.hid B9
      clear hb9 ho9 B9
      go_wp2
      exact bodyPost_ret (results_cell1 rfl _ _ N _ _ _ _ rfl HB9.out Try.underlying128 rfl (by simp [wds_length, HL.out, infoW64])) rfl ⟨rfl, HBL.out⟩

set_option maxRecDepth 100000 in
set_option maxHeartbeats 400000 in
theorem start_any (w : World) :
    Calls Try.prog 91 #[] w fun e w' => e = .returned (.agg (wds S0.l).toArray) ∧ Below w.heap.size w w' := by
  have hLl : S0.l.length = 8 := rfl
  have hPl : (primes64.take 8).length = 8 := rfl
  have hPget : ∀ k, k < 8 → (primes64.take 8).getD k 0 < 1000 ∧ squareW ((primes64.take 8).getD k 0) = S0.l.getD k 0 := by
    intro k hk
    have h1 := squares_ok
    refine ⟨?_, ?_⟩
    · revert k; decide +kernel
    · rw [← h1]
      simp [List.getD_eq_getElem?_getD, hk, hPl]
      try (rw [List.getElem?_eq_getElem (by rw [show primes64.length = 64 from rfl]; omega)]; rfl)
  have CP := fun w0 => primes_any w0 8 18 (by rw [pr8]; rfl) (by omega)
  rw [pr8] at CP
  have HL := Lib.hid hLl
  have HG := Lib.hid hPget
  have CP := Lib.hid CP
  clear hLl hPl hPget
  obtain ⟨PL, hPL⟩ : ∃ l, l = primes64.take 8 := ⟨_, rfl⟩
  obtain ⟨L, hL⟩ : ∃ l, l = S0.l := ⟨_, rfl⟩
  rw [← hPL] at HG CP
  rw [← hL] at HG HL ⊢
  have hPl : PL.length = 8 := by rw [hPL]; rfl
  clear hPL hL
  have HPL := Lib.hid hPl; clear hPl
  go_enter Try.func91, Try.ntmps91
  go_wp2_with fail
  obtain ⟨wa, ha, hak, hab, has⟩ := alloc_cb w 99 (wds (List.replicate 8 0))
  change Calls _ _ _ (w.alloc (.cells (wds (List.replicate 8 0)).toArray 99)) _
  rw [← ha]
  clear ha
  refine (CP.out wa).mono ?_
  rintro e w1 ⟨v, rfl, hr, hown, hb⟩
  obtain ⟨N, hN⟩ : ∃ N, N = w.heap.size := ⟨_, rfl⟩
  rw [← hN] at hak hab has ⊢
  have hz := hak.fresh hb
  have hB1 : Below N w w1 := hab.trans (hb.mono (by omega))
  have hne : v.ownBlock ≠ some N := fun h => by have := hown N h; omega
  have HR := Lib.hid hr
  have HZ := Lib.hid hz
  have HB1 := Lib.hid hB1
  have HNE := Lib.hid hne
  have HN := Lib.hid hN
  clear hr hown hb hz hB1 hne hak hab has hN
  rcases HR.out.2 with ⟨_, h0⟩ | ⟨ad, c, hv, _, _, _⟩
  · omega
  subst hv
  go_wp2
  go_loopw [5] (fun v5 wr => ∃ m : Nat, m ≤ 8 ∧ v5 = .int .i64 (m : Int) ∧ CB wr 99 N (wds (L.take m ++ List.replicate (8 - m) 0)) ∧ Rd wr 1 (.slice (some ad) 8 c) 8 (ns PL) ∧ Below N w wr)
    (fun v _ => 8 - (intOf v).toNat)
  case atStart => exact ⟨0, by omega, rfl, by simpa using HZ.out, HR.out, HB1.out⟩
  case round =>
    clear HZ HR HB1
    obtain ⟨m, hm, rfl, h1, h2, h3⟩ := hrel
    have H1 := Lib.hid h1
    have H2 := Lib.hid h2
    have H3 := Lib.hid h3
    clear h1 h2 h3
    by_cases hlt : m < 8
    · rcases H2.out.2 with ⟨_, h0⟩ | ⟨ad', c', he, _, _, hcell⟩
      · omega
      simp only [Value.slice.injEq, true_and, Option.some.injEq] at he
      obtain ⟨rfl, rfl⟩ := he
      obtain ⟨q, hq⟩ : ∃ q, q = PL.getD m 0 := ⟨_, rfl⟩
      have fk : wr.cell? (ad.add m) = some (.int .u64 (q : Int)) := by
        rw [hq]
        exact hcell m _ (ns_get _ _ (by have := HPL.out; omega))
      have hqq := HG.out m hlt
      rw [← hq] at hqq
      have bk : (m : Int) < 8 := by omega
      have C := fun w0 => square_any w0 q 
      rw [show BitVec.ofNat 32 (rootN (sqG q) 36) = L.getD m 0 from hqq.2] at C
      obtain ⟨x, hx⟩ : ∃ x, x = L.getD m 0 := ⟨_, rfl⟩
      rw [← hx] at C
      obtain ⟨X, hX⟩ : ∃ n, n = x.toNat := ⟨_, rfl⟩
      unfold wd at C
      rw [← hX] at C
      have hl0 : (L.take m).length = m := by rw [List.length_take]; have := HL.out; omega
      have CC := Lib.hid C
      have E := Lib.hid (And.intro hx (And.intro hX hl0))
      clear hcell hqq C hx hX hq hl0
      rename World => wO
      go_wp2_with fail
      refine (CC.out _).mono ?_
      rintro e w2 ⟨rfl, hb2⟩
      have h1 := H1.out.fresh hb2
      have h2 := H2.out.fresh hb2
      have h3 := H3.out.trans (hb2.mono (by have := H3.out.size; have := HN.out; omega))
      have fc := h1.cell m (wd 0) (wds_zero _ _ _ (by rw [E.out.2.2]; omega) (by rw [E.out.2.2]; omega))
      have ff := h1.free m
      unfold wd at fc
      have K1 := Lib.hid h1
      have K2 := Lib.hid h2
      have K3 := Lib.hid h3
      clear h1 h2 h3 hb2
      go_wp2
      go_roundw
      case rel =>
        refine ⟨m + 1, by omega, by go_num, ?_, K2.out.setCell HNE.out _, K3.out.setCell (Nat.le_refl _) _⟩
        have h1 := K1.out.set m (wd x)
        rw [wds_set, show 8 - m = (8 - (m + 1)) + 1 by omega] at h1
        have h2 := set_next (L.take m) (8 - (m + 1)) x
        rw [E.out.2.2] at h2
        rw [h2] at h1
        have h4 : L.take m ++ [x] = L.take (m + 1) := by
          rw [E.out.1, List.take_add_one]
          have : m < L.length := by rw [HL.out]; exact hlt
          simp [List.getD_eq_getElem?_getD, this]
        rw [h4] at h1
        rw [E.out.2.1]
        exact h1
      case measure =>
        simp only [intOf]
        omega
    · have hm64 : m = 8 := by omega
      have h1 := H1.out
      rw [hm64, List.take_of_length_le (by rw [HL.out]; exact Nat.le_refl _), Nat.sub_self, List.replicate_zero, List.append_nil] at h1
      have K1 := Lib.hid h1
      have HM := Lib.hid hm64
      clear h1 hm64 H1 H2
      go_wp2_with (with_reducible refine stopAt 15 ?_)
      refine Stop.go ?_
      refine wpList_load_agg rfl 99 (.tmp 0) rfl ⟨N, 0, none⟩ rfl (wds L) _ K1.out.at.load Try.underlying99 rfl (by rw [wds_length, HL.out]; exact infoW8) ?_
      go_wp2_with (with_reducible refine stopStore 99 ?_)
      refine Stop.go ?_
      refine wpList_store_var rfl 99 (.tmp 0) (.tmp 15) rfl N _ rfl _ (wds L) rfl K1.out (by simp [wds_length]) (wds_one _) (by rw [wds_length, HL.out]; exact infoW8) ?_
      intro w9 hb9 ho9
      have B9 : Below N w w9 := Below.only H3.out ho9 (Nat.le_refl _)
      rw [HN.out] at B9
      have HB9 := Lib.hid hb9
      have HBL := Lib.hid B9
      clear hb9 ho9 B9
      go_wp2
      exact bodyPost_ret (results_cell1 rfl _ _ N _ _ _ _ rfl HB9.out Try.underlying99 rfl (by simp [wds_length, HL.out, infoW8])) rfl ⟨rfl, HBL.out⟩

end Go.Proofs.Ytkbahhnjoidhcaa

/- The hash of bytes, in plain words; what is put behind them; how it goes on. -/
namespace Go.Proofs.Ytkbahhnjoidhcaa
set_option linter.unusedVariables false
set_option linter.unusedSimpArgs false

/-- n blocks pressed into a state. -/
def pressN : Nat → St → List UInt8 → St
  | 0, s, _ => s
  | n + 1, s, m => pressN n (pressS KS s (m.take 64)) (m.drop 64)

theorem pressN_snoc (n : Nat) (s : St) (m : List UInt8) : pressN (n + 1) s m = pressS KS (pressN n s m) ((m.drop (64 * n)).take 64) := by
  induction n generalizing s m with
  | zero => simp [pressN]
  | succ n ih =>
    have h1 := ih (pressS KS s (m.take 64)) (m.drop 64)
    rw [show pressN (n + 1 + 1) s m = pressN (n + 1) (pressS KS s (m.take 64)) (m.drop 64) from rfl, h1,
      show pressN (n + 1) s m = pressN n (pressS KS s (m.take 64)) (m.drop 64) from rfl, List.drop_drop]
    rw [show 64 + 64 * n = 64 * (n + 1) by omega]

theorem pressN_append (n : Nat) (s : St) (m t : List UInt8) (h : 64 * n ≤ m.length) : pressN n s (m ++ t) = pressN n s m := by
  induction n generalizing s m with
  | zero => rfl
  | succ n ih =>
    show pressN n (pressS KS s ((m ++ t).take 64)) ((m ++ t).drop 64) = pressN n (pressS KS s (m.take 64)) (m.drop 64)
    rw [List.take_append_of_le_length (by omega), List.drop_append_of_le_length (by omega)]
    exact ih _ _ (by simp; omega)

/-- The length in bits, the highest byte first. -/
def be8 (v : Nat) : Nat → List UInt8
  | 0 => []
  | k + 1 => be8 v k ++ [UInt8.ofNat (v / 2 ^ (8 * (7 - k)))]

@[simp] theorem be8_length (v k : Nat) : (be8 v k).length = k := by induction k <;> simp [be8, *]

/-- What is put behind n bytes. -/
def padB (n : Nat) : List UInt8 := 128 :: (List.replicate ((119 - n % 64) % 64) 0 ++ be8 (n * 8) 8)

theorem padB_length (n : Nat) : (padB n).length = (119 - n % 64) % 64 + 9 := by simp [padB]

theorem pad_whole (n : Nat) : (n + (padB n).length) % 64 = 0 := by rw [padB_length]; omega

def wordB (w : W32) : List UInt8 := [UInt8.ofNat (w.toNat / 16777216), UInt8.ofNat (w.toNat / 65536), UInt8.ofNat (w.toNat / 256), UInt8.ofNat w.toNat]

def outB (l : List W32) : List UInt8 := l.flatMap wordB

@[simp] theorem outB_length (l : List W32) : (outB l).length = 4 * l.length := by
  induction l with
  | nil => rfl
  | cons x l ih =>
    show (wordB x ++ outB l).length = _
    rw [List.length_append, ih]
    simp [wordB]
    omega

/-- The hash of bytes. -/
def shaB (m : List UInt8) : List UInt8 := outB (pressN ((m ++ padB m.length).length / 64) S0 (m ++ padB m.length)).l

@[simp] theorem shaB_length (m : List UInt8) : (shaB m).length = 32 := by simp [shaB, St.l]

theorem sha_abc : (shaB [97, 98, 99]).take 4 = [186, 120, 22, 191] := by decide +kernel
theorem sha_nil : (shaB []).take 4 = [227, 176, 196, 66] := by decide +kernel
end Go.Proofs.Ytkbahhnjoidhcaa

/- A row of bytes of one's own that is seen from a place on, and what is put behind it. -/
namespace Go.Proofs.Ytkbahhnjoidhcaa
set_option linter.unusedVariables false
set_option linter.unusedSimpArgs false
open Go.RowKit

/-- The value v shows the bytes l in a block of one's own, from base on. -/
def Vw (w : World) (base : Nat) (v : Value) (l : List UInt8) : Prop :=
  (v = .slice none 0 0 ∧ l = []) ∨ ∃ g off c, v = .slice (some ⟨g, off, none⟩) l.length c ∧ base ≤ g ∧ l.length ≤ c ∧ c ≤ maxLen ∧
    (∀ j x, l[j]? = some x → w.cell? ⟨g, off + j, none⟩ = some (bv x)) ∧ ∀ j, j < c → (w.cell? ⟨g, off + j, none⟩).isSome = true ∧ w.frozen? ⟨g, off + j, none⟩ = false

theorem Vw.nil (w : World) (base : Nat) : Vw w base (.slice none 0 0) [] := .inl ⟨rfl, rfl⟩

theorem Vw.slice {w : World} {base : Nat} {v : Value} {l : List UInt8} (h : Vw w base v l) : ∃ a c, v = .slice a l.length c := by
  rcases h with ⟨rfl, rfl⟩ | ⟨g, off, c, rfl, _⟩
  · exact ⟨none, 0, rfl⟩
  · exact ⟨_, c, rfl⟩

theorem Vw.rd {w : World} {base : Nat} {v : Value} {l : List UInt8} (h : Vw w base v l) : Rd w 1 v l.length (bvs l) := by
  rcases h with ⟨rfl, rfl⟩ | ⟨g, off, c, rfl, _, h1, h2, h3, _⟩
  · exact ⟨rfl, .inl ⟨rfl, rfl⟩⟩
  · refine ⟨by simp, .inr ⟨⟨g, off, none⟩, c, rfl, h1, h2, fun j u hj => ?_⟩⟩
    simp only [bvs, List.getElem?_map] at hj
    cases hx : l[j]? with
    | none => rw [hx] at hj; cases hj
    | some x =>
      rw [hx] at hj
      cases hj
      rw [add_at]
      exact h3 j x hx

theorem Vw.of_own {w : World} {base base' : Nat} {e : TypeId} {v : Value} {l : List UInt8} (h : w.ownsRow base' e 1 v l.length (bvs l)) (hb : base ≤ base') : Vw w base v l := by
  rcases h.2 with ⟨rfl, h0⟩ | ⟨g, cap, cur, rfl, hbg, hg, hnc, hcm, hcs, htake⟩
  · exact .inl ⟨rfl, List.eq_nil_of_length_eq_zero h0⟩
  · refine .inr ⟨g, 0, cap, rfl, by omega, hnc, hcm, fun j x hx => ?_, fun j hj => ?_⟩
    · have h1 : (bvs l)[j]? = some (bv x) := by simp [bvs, hx]
      rw [← htake, List.getElem?_take] at h1
      split at h1
      · simp [World.cell?, hg]
        simpa using h1
      · cases h1
    · have hj' : j < cur.size := by omega
      constructor
      · simp [World.cell?, hg, hj']
      · simp [World.frozen?, hg]

theorem Only.setCell (w : World) (g o : Nat) (v : Value) : Only g w (w.setCell ⟨g, o, none⟩ v) :=
  have b : Below g w (w.setCell ⟨g, o, none⟩ v) := (Below.refl g w).setCell (Nat.le_refl _) v
  ⟨b.os, b.tape, b.output, by simp, fun k hk => heap_setCell_other _ _ _ _ hk⟩

theorem Vw.only {w w' : World} {base g : Nat} {v : Value} {l : List UInt8} (h : Vw w base v l) (ho : Only g w w') (hg : g < base) : Vw w' base v l := by
  rcases h with h | ⟨b, off, c, rfl, hb, h1, h2, h3, h4⟩
  · exact .inl h
  · have hbk := ho.block b (by omega)
    refine .inr ⟨b, off, c, rfl, hb, h1, h2, fun j x hx => ?_, fun j hj => ?_⟩
    · rw [World.cell?_of_block (w := w) (by exact hbk)]
      exact h3 j x hx
    · have hc : w'.cell? ⟨b, off + j, none⟩ = w.cell? ⟨b, off + j, none⟩ := World.cell?_of_block (w := w) (by exact hbk)
      have hf : w'.frozen? ⟨b, off + j, none⟩ = w.frozen? ⟨b, off + j, none⟩ := by simp only [World.frozen?, hbk]
      rw [hc, hf]
      exact h4 j hj

theorem Vw.fresh {w w' : World} {base : Nat} {v : Value} {l : List UInt8} (h : Vw w base v l) (hb : Below w.heap.size w w') : Vw w' base v l := by
  rcases h with h | ⟨b, off, c, rfl, hbb, h1, h2, h3, h4⟩
  · exact .inl h
  · rcases Nat.eq_zero_or_pos c with hc0 | hc0
    · exact .inr ⟨b, off, c, rfl, hbb, h1, h2, fun j x hx => by have := (List.getElem?_eq_some_iff.1 hx).1; omega, fun j hj => by omega⟩
    · have h5 := (h4 0 hc0).1
      obtain ⟨u, hu⟩ := Option.isSome_iff_exists.1 h5
      have hlt : b < w.heap.size := block_lt_of_cell hu
      have hbk := hb.block b hlt
      refine .inr ⟨b, off, c, rfl, hbb, h1, h2, fun j x hx => ?_, fun j hj => ?_⟩
      · rw [World.cell?_of_block (w := w) (by exact hbk)]
        exact h3 j x hx
      · have hc : w'.cell? ⟨b, off + j, none⟩ = w.cell? ⟨b, off + j, none⟩ := World.cell?_of_block (w := w) (by exact hbk)
        have hf : w'.frozen? ⟨b, off + j, none⟩ = w.frozen? ⟨b, off + j, none⟩ := by simp only [World.frozen?, hbk]
        rw [hc, hf]
        exact h4 j hj

/-- The first n bytes are passed over. -/
theorem Vw.drop {w : World} {base g off c : Nat} {l : List UInt8} (h : Vw w base (.slice (some ⟨g, off, none⟩) l.length c) l) (n : Nat) (hn : n ≤ l.length) :
    Vw w base (.slice (some ⟨g, off + n, none⟩) (l.length - n) (c - n)) (l.drop n) := by
  rcases h with ⟨h, _⟩ | ⟨b, o, c', he, hb, h1, h2, h3, h4⟩
  · simp at h
  · simp only [Value.slice.injEq, Option.some.injEq, Addr.mk.injEq, and_true, true_and] at he
    obtain ⟨⟨rfl, rfl⟩, rfl⟩ := he
    refine .inr ⟨g, off + n, c - n, by simp, hb, by simp; omega, by omega, fun j x hx => ?_, fun j hj => ?_⟩
    · rw [Nat.add_assoc]
      exact h3 (n + j) x (by simpa using hx)
    · rw [Nat.add_assoc]
      exact h4 (n + j) (by omega)

theorem below_setCells {B : Nat} {w : World} (b : Nat) (hb : B ≤ b) : ∀ (vs : List Value) (o : Nat) (u : World), Below B w u → Below B w (u.setCells b o vs)
  | [], _, _, h => h
  | v :: r, o, u, h => below_setCells b hb r (o + 1) _ (h.setCell hb v)

theorem run_append_vw {P : Program} (w : World) (base : Nat) (t ty e : TypeId) (i : TypeInfo) (ht : P.underlying t = some (.slice e)) (hi : P.info? e = some i) (hz : i.zero = some (.int .u8 0))
    (hsize : i.size = 1) (hby : i.bytes = 1) (v : Value) (l : List UInt8) (hv : Vw w base v l) (v2 : Value) (ys : List UInt8) (hrd : Rd w 1 v2 ys.length (bvs ys))
    (hlen : l.length + ys.length ≤ 140737488355328) (hbase : base ≤ w.heap.size) :
    ∃ v' w', (Builtin.append_ #[t, t] ty #[v, v2]).run P w = .ok v' w' ∧ Vw w' base v' (l ++ ys) ∧ Below base w w' := by
  have hmx : l.length + ys.length ≤ maxLen := by unfold maxLen; omega
  rcases hv with ⟨rfl, rfl⟩ | ⟨g, off, c, rfl, hbg, hlc, hcm, hcell, hall⟩
  · obtain ⟨v', w', hr, hown, hgr, _, _⟩ := run_append_rd (P := P) w base t ty e i _ 1 1 ht hi hz hsize hby rfl (by decide) (.slice none 0 0) 0 [] (World.ownsRow_nil _ _ _ _) v2 ys.length (bvs ys) hrd (bvs_one _) (by simpa using hmx) (by simpa using hlen) hbase
    refine ⟨v', w', hr, Vw.of_own (e := e) (base' := base) (by simpa using hown) (Nat.le_refl _), Below.grown (Below.refl _ w) hgr hbase (by simp [Value.ownBlock])⟩
  · obtain ⟨_, ⟨rfl, h0⟩ | ⟨ad, c2, rfl, hmc, hc2, hcell2⟩⟩ := hrd
    · have hy : ys = [] := List.eq_nil_of_length_eq_zero h0
      subst hy
      refine ⟨.slice (some ⟨g, off, none⟩) l.length c, w, ?_, ?_, Below.refl _ _⟩
      · simp [Builtin.append_, run_underlying ht, sizeOf, typeInfo, hi, Builtin.lenOf, Builtin.firstCells, hlc, storeCells]
      · rw [List.append_nil]
        exact .inr ⟨g, off, c, rfl, hbg, hlc, hcm, hcell, hall⟩
    · by_cases hroom : l.length + ys.length ≤ c
      · have hn : (bvs ys).length = ys.length * i.size := by rw [hsize]; simp
        have hr := run_append_room_cells (P := P) w t ty e i ht hi g off l.length c ad ys.length c2 (bvs ys) hn hcell2 (bvs_one _) hroom
          (fun j hj => by rw [hsize, Nat.mul_one, Nat.add_assoc]; exact (hall _ (by simp at hj; omega)).1) (fun j hj => by rw [hsize, Nat.mul_one, Nat.add_assoc]; exact (hall _ (by simp at hj; omega)).2)
        rw [hsize, Nat.mul_one] at hr
        have hsome : ∀ j, j < (bvs ys).length → (w.cell? ⟨g, off + l.length + j, none⟩).isSome = true := fun j hj => by rw [Nat.add_assoc]; exact (hall _ (by simp at hj; omega)).1
        refine ⟨_, _, hr, .inr ⟨g, off, c, by simp, hbg, by simpa using hroom, hcm, fun j x hx => ?_, fun j hj => ⟨?_, ?_⟩⟩, below_setCells g hbg _ _ _ (Below.refl _ w)⟩
        · rcases Nat.lt_or_ge j l.length with h | h
          · rw [List.getElem?_append_left h] at hx
            rw [World.cell?_setCells_out g _ _ _ _ (fun _ _ => Or.inl (by simp; omega))]
            exact hcell j x hx
          · rw [List.getElem?_append_right h] at hx
            have hj' : j - l.length < (bvs ys).length := by
              have := (List.getElem?_eq_some_iff.1 hx).1
              simpa using this
            have h1 := World.cell?_setCells_in g (bvs ys) (off + l.length) w hsome (j - l.length) hj'
            rw [show off + l.length + (j - l.length) = off + j by omega] at h1
            rw [h1]
            have h2 : (bvs ys)[j - l.length]? = some (bv x) := by simp [bvs, hx]
            rw [List.getElem?_eq_getElem hj'] at h2
            exact h2
        · rcases Nat.lt_or_ge j l.length with h | h
          · rw [World.cell?_setCells_out g _ _ _ _ (fun _ _ => Or.inl (by simp; omega))]
            exact (hall j hj).1
          · rcases Nat.lt_or_ge (j - l.length) (bvs ys).length with h' | h'
            · have h1 := World.cell?_setCells_in g (bvs ys) (off + l.length) w hsome (j - l.length) h'
              rw [show off + l.length + (j - l.length) = off + j by omega] at h1
              rw [h1]; rfl
            · rw [World.cell?_setCells_out g _ _ _ _ (fun _ _ => Or.inr (by simp at h' ⊢; omega))]
              exact (hall j hj).1
        · rw [World.frozen?_setCells]
          exact (hall j hj).2
      · obtain ⟨v', w', hr, hown, hgr⟩ := run_append_arg_grows (P := P) w t ty e i _ 1 1 ht hi hz hsize hby rfl (by decide) ⟨g, off, none⟩ l.length c (bvs l) (by simp)
          (fun j u hj => by
            simp only [bvs, List.getElem?_map] at hj
            cases hx : l[j]? with
            | none => rw [hx] at hj; cases hj
            | some x =>
              rw [hx] at hj
              cases hj
              rw [add_at]
              exact hcell j x hx) ad ys.length c2 (bvs ys) (by simp) hcell2 (by omega) hmx (by omega)
        refine ⟨v', w', hr, Vw.of_own (e := e) (base' := w.heap.size) (by simpa using hown) hbase, (Below.grown (Below.refl _ w) hgr (Nat.le_refl _) (by simp)).mono hbase⟩

theorem wpList_append_vw {P : Program} (w : World) {ops : Array Oper} {rest : List Oper} {o : Oper} {a : Act} {Q : Exit → Act → World → Prop} (hgd : o.guard = none) (s x : Operand) (t : TypeId)
    (ho : o.op = .call { callee := .builtin .append, args := #[s, x], argTypes := #[t, t] })
    (base : Nat) (e : TypeId) (i : TypeInfo) (ht : P.underlying t = some (.slice e)) (hi : P.info? e = some i) (hz : i.zero = some (.int .u8 0)) (hsize : i.size = 1) (hby : i.bytes = 1)
    (v : Value) (l : List UInt8) (hs : a.eval s = v) (hv : Vw w base v l) (v2 : Value) (ys : List UInt8) (hx : a.eval x = v2) (hrd : Rd w 1 v2 ys.length (bvs ys))
    (hlen : l.length + ys.length ≤ 140737488355328) (hbase : base ≤ w.heap.size)
    (h : ∀ v' w', Vw w' base v' (l ++ ys) → Below base w w' → wpList P ops Q rest (a.put o.dst v') w') : wpList P ops Q (o :: rest) a w := by
  refine wpList_plain hgd fun K hK => ?_
  obtain ⟨v', w', hr, h2, h3⟩ := run_append_vw (P := P) w base t o.type e i ht hi hz hsize hby v l hv v2 ys hrd hlen hbase
  unfold Oper.wp execOp
  simp only [ho, resolve, invoke, builtin, Sem.run_bind, Sem.run_pure, Result.andThen_ok, List.map_toArray, List.map_cons, List.map_nil, hs, hx, hr]
  exact hK _ _ (h v' w' h2 h3)
end Go.Proofs.Ytkbahhnjoidhcaa
