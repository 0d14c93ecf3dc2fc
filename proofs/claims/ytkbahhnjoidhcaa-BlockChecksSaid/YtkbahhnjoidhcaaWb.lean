/- Contracts of package wire's writer: bytes and blobs. -/
import Derived.Test.YtkbahhnjoidhcaaWc
namespace Go.Proofs.Ytkbahhnjoidhcaa
set_option linter.unusedVariables false
set_option linter.unusedSimpArgs false
open Go.RowKit

theorem Bytes_any (w : World) (B b : Nat) (st : Option (List UInt8)) (ys : List UInt8) (h : IsW w B b st) (v2 : Value) (hr : Rd w 1 v2 ys.length (bvs ys)) (hn : ∀ xs, st = some xs → xs.length + ys.length ≤ 1099511627776) :
    Calls Try.prog 96 #[.pointer (some ⟨b, 0, none⟩), v2] w fun e w' => e = .returned (.pointer (some ⟨b, 0, none⟩)) ∧ IsW w' B b (wput st (some ys)) ∧ MW b w w' := by
  go_enter Try.func96, Try.ntmps96
  go_wp2_with fail
  refine (put_any w B b st ys h v2 hr hn).mono ?_
  rintro e w' ⟨rfl, h1, h2⟩
  go_wp2
  go_ret
  exact ⟨rfl, by rw [wput_some]; exact h1, h2⟩

set_option maxRecDepth 100000 in
set_option maxHeartbeats 400000 in
theorem Blob_any (w : World) (B b : Nat) (st : Option (List UInt8)) (ys : List UInt8) (h : IsW w B b st) (v2 : Value) (hr : Rd w 1 v2 ys.length (bvs ys)) (hd : Apart w b v2 ys.length) (hn : lenOk st (ys.length + 8)) :
    Calls Try.prog 69 #[.pointer (some ⟨b, 0, none⟩), v2] w fun e w' => e = .returned (.pointer (some ⟨b, 0, none⟩)) ∧ IsW w' B b (wput st (blobB ys)) ∧ MW b w w' := by
  obtain ⟨a, c, rfl⟩ := hr.slice
  by_cases hc : ys.length ≤ 16777216
  · have fin : blobB ys = some (le ys.length 4 ++ ys) := by simp [blobB, hc]
    go_enter Try.func69, Try.ntmps69
    go_wp2_with fail
    refine (Number_any w B b st h ys.length (by omega) 4 (fun xs e => by have := hn xs e; omega)).mono ?_
    rintro e w' ⟨rfl, h2, h3⟩
    rw [numB_ok ys.length 4 rfl (by simp <;> omega)] at h2
    go_wp2_with fail
    refine (Bytes_any w' B b _ ys h2 _ (hr.mw hd h3) ?_).mono ?_
    · intro xs e
      rw [wput_some] at e
      simp only [Option.map_eq_some_iff] at e
      obtain ⟨x, hx, rfl⟩ := e
      have := hn x hx
      simp; omega
    rintro e w2 ⟨rfl, h4, h5⟩
    go_wp2
    go_ret
    refine ⟨rfl, ?_, h3.trans h5⟩
    rw [wput_wput] at h4
    rw [fin]; exact h4
  · have fin : blobB ys = none := by simp [blobB, hc]
    go_enter Try.func69, Try.ntmps69
    go_wp2_with fail
    refine (put_no w B b st h _ false (by simp)).mono ?_
    rintro e w' ⟨rfl, h1, h2⟩
    go_wp2
    go_ret
    exact ⟨rfl, by rw [fin, wput_none]; exact h1, h2⟩

end Go.Proofs.Ytkbahhnjoidhcaa
