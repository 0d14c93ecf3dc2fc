/- WireTexts: digits of bytes, and of hashes, and what texts of digits say, are what the chapter says. No condition beside the statement's own. -/
import Derived.Test.YtdljpgihfjpnjaaRows
import Derived.Test.YtdljpgihfjpnjaaLw
import Derived.Test.YtdljpgihfjpnjaaTg
namespace Go.Proofs.Ytdljpgihfjpnjaa
set_option linter.unusedVariables false
set_option linter.unusedSimpArgs false
open Go.ChangeShapes Go.WideShapes Go.ChangeAt Go.RowKit Go.Deep Go.Lib

set_option maxRecDepth 100000 in
theorem texts_any (w : World) (v : Value) (l s x : List UInt8) (hr : Rd w 1 v l.length (bvs l)) (hx : x.length = 32) :
    Calls Try.prog 4 #[v, .string ⟨s.toArray⟩, .agg (bvs x).toArray] w fun e w' => e = .returned (.bool true) ∧ Below w.heap.size w w' := by
  obtain ⟨a, c, rfl⟩ := hr.slice
  have Hr := Lib.hid hr; clear hr
  have HX := Lib.hid hx; clear hx
  have hT : (⟨s.toArray⟩ : ByteArray).size = s.length := bsize s
  by_cases hb : l.length ≤ 3000
  · by_cases hs : s.length ≤ 9000
    · obtain ⟨Y, hY⟩ : ∃ Y, Y = (ofHexB s).getD [] := ⟨_, rfl⟩
      obtain ⟨H, hH⟩ : ∃ H, H = (hexH s).getD zero32 := ⟨_, rfl⟩
      have HH : Hid (H.length = 32) := by rw [hH]; exact hexH_len s
      have C1 : ∀ (ok : Bool) (bad good : Value) (w0 : World) (e : Ending) (w' : World), (ofHexB s).isSome = ok → HexPost w0 s bad good e w' → ∃ v', e = .returned (.tuple #[v', bif ok then good else bad]) ∧ Rd w' 1 v' Y.length (bvs Y) ∧ Below w0.heap.size w0 w' := by
        intro ok bad good w0 e w' hok hp
        obtain ⟨v', Y', rfl, hY', h1, h2⟩ := hp.all
        rw [← hY] at hY'
        subst hY'
        exact ⟨v', by rw [hok], h1, h2⟩
      have C2 : ∀ (ok : Bool) (bad good : Value) (w0 : World) (e : Ending) (w' : World), (hexH s).isSome = ok → HashPost w0 s bad good e w' → e = .returned (.tuple #[.agg (bvs H).toArray, bif ok then good else bad]) ∧ Below w0.heap.size w0 w' := by
        intro ok bad good w0 e w' hok hp
        obtain ⟨rfl, h2⟩ := hp.all
        exact ⟨by rw [hok, hH], h2⟩
      have hTi : ((⟨s.toArray⟩ : ByteArray).size : Int) ≤ 9000 := by omega
      cases hok : (ofHexB s).isSome <;> cases hgd : (hexH s).isSome
      · exact texts_false_false w a c l x Y H _ Hr HX HH hb hTi (fun w0 => (ofHex_any w0 s (by omega)).mono (fun e w' hp => C1 false _ _ w0 e w' hok hp)) (fun w0 => (rofHex_any w0 s (by omega)).mono (fun e w' hp => C1 false _ _ w0 e w' hok hp))
          (fun w0 => (hashOf_any w0 s (by omega)).mono (fun e w' hp => C2 false _ _ w0 e w' hgd hp)) (fun w0 => (rhashOf_any w0 s (by omega)).mono (fun e w' hp => C2 false _ _ w0 e w' hgd hp))
      · exact texts_false_true w a c l x Y H _ Hr HX HH hb hTi (fun w0 => (ofHex_any w0 s (by omega)).mono (fun e w' hp => C1 false _ _ w0 e w' hok hp)) (fun w0 => (rofHex_any w0 s (by omega)).mono (fun e w' hp => C1 false _ _ w0 e w' hok hp))
          (fun w0 => (hashOf_any w0 s (by omega)).mono (fun e w' hp => C2 true _ _ w0 e w' hgd hp)) (fun w0 => (rhashOf_any w0 s (by omega)).mono (fun e w' hp => C2 true _ _ w0 e w' hgd hp))
      · exact texts_true_false w a c l x Y H _ Hr HX HH hb hTi (fun w0 => (ofHex_any w0 s (by omega)).mono (fun e w' hp => C1 true _ _ w0 e w' hok hp)) (fun w0 => (rofHex_any w0 s (by omega)).mono (fun e w' hp => C1 true _ _ w0 e w' hok hp))
          (fun w0 => (hashOf_any w0 s (by omega)).mono (fun e w' hp => C2 false _ _ w0 e w' hgd hp)) (fun w0 => (rhashOf_any w0 s (by omega)).mono (fun e w' hp => C2 false _ _ w0 e w' hgd hp))
      · exact texts_true_true w a c l x Y H _ Hr HX HH hb hTi (fun w0 => (ofHex_any w0 s (by omega)).mono (fun e w' hp => C1 true _ _ w0 e w' hok hp)) (fun w0 => (rofHex_any w0 s (by omega)).mono (fun e w' hp => C1 true _ _ w0 e w' hok hp))
          (fun w0 => (hashOf_any w0 s (by omega)).mono (fun e w' hp => C2 true _ _ w0 e w' hgd hp)) (fun w0 => (rhashOf_any w0 s (by omega)).mono (fun e w' hp => C2 true _ _ w0 e w' hgd hp))
    · have hTi : ¬ (((⟨s.toArray⟩ : ByteArray).size : Int) ≤ 9000) := by omega
      generalize (⟨s.toArray⟩ : ByteArray) = T at *
      clear hT
      go_enter Try.func4, Try.ntmps4
      go_wp2_with fail
      refine (known_any _).mono ?_
      rintro e w2 ⟨rfl, h2⟩
      have B2 : Hid (Below w.heap.size w w2) := ((Below.refl _ w).alloc (Nat.le_refl _) _).trans (h2.mono (Nat.le_of_lt (lt_of_block (heap_alloc_new w _))))
      clear h2
      go_wp2
      go_ret
      exact ⟨rfl, B2.out⟩
  · generalize (⟨s.toArray⟩ : ByteArray) = T at *
    clear hT
    go_enter Try.func4, Try.ntmps4
    go_wp2_with fail
    refine (known_any _).mono ?_
    rintro e w2 ⟨rfl, h2⟩
    have B2 : Hid (Below w.heap.size w w2) := ((Below.refl _ w).alloc (Nat.le_refl _) _).trans (h2.mono (Nat.le_of_lt (lt_of_block (heap_alloc_new w _))))
    clear h2
    go_wp2
    go_ret
    exact ⟨rfl, B2.out⟩
end Go.Proofs.Ytdljpgihfjpnjaa
