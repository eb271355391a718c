/-
  NumTexts: THE WALK OF THE LAW: it returns true at every text and every int, in every world in which the tables lie; of what was there nothing is turned.
-/
import Derived.Test.YtmepocffafcibaaDoorLives
import Derived.Test.YtmepocffafcibaaDoorRprintAny
namespace Go.Proofs.YtmepocffafcibaaDoor
open Go.RowKit

set_option maxHeartbeats 400000 in
theorem texts_core (x e t2 : Int) (t : List UInt8) (s : ByteArray) (n : Int) (w : World) (L : LaidW w)
    (hP : ∀ w, LaidW w → Calls Tryd.prog 25 #[.string s] w fun o w' => o = .returned (.tuple #[.int .i64 x, .int .i64 e]) ∧ Below w.heap.size w w')
    (hR : ∀ w, Calls Tryd.prog 26 #[.string s] w fun o w' => o = .returned (.tuple #[.int .i64 x, .int .i64 e]) ∧ w = w')
    (hT : ∀ w, LaidW w → Calls Tryd.prog 27 #[.int .i64 n] w fun o w' => o = .returned (.tuple #[.string ⟨t.toArray⟩, .int .i64 t2]) ∧ Below w.heap.size w w')
    (hU : ∀ w, Calls Tryd.prog 28 #[.int .i64 n] w fun o w' => o = .returned (.tuple #[.string ⟨t.toArray⟩, .int .i64 t2]) ∧ Below w.heap.size w w') :
    Calls Tryd.prog 8 #[.string s, .int .i64 n] w fun e w' => e = .returned (.bool true) ∧ Below w.heap.size w w' := by
  have HL := Lib.hid L
  have HP := Lib.hid hP
  have HR := Lib.hid hR
  have HT := Lib.hid hT
  have HU := Lib.hid hU
  clear L hP hR hT hU
  go_enter Tryd.func8, Tryd.ntmps8
  go_wp2_with fail
  refine (HP.out _ HL.out).mono ?_
  rintro o w1 ⟨rfl, h⟩
  have B1 := Lib.hid h
  have L1 := Lib.hid (HL.out.below h)
  clear h
  go_wp2_with fail
  refine (HR.out _).mono ?_
  rintro o w1' ⟨rfl, rfl⟩
  go_wp2_with fail
  refine (HT.out _ L1.out).mono ?_
  rintro o w2 ⟨rfl, h⟩
  have B2 := Lib.hid (B1.out.trans (h.mono B1.out.size))
  have L2 := Lib.hid (L1.out.below h)
  clear h
  go_wp2_with fail
  refine (HU.out _).mono ?_
  rintro o w3 ⟨rfl, h⟩
  have B3 := Lib.hid (B2.out.trans (h.mono B2.out.size))
  have L3 := Lib.hid (L2.out.below h)
  clear h
  go_wp2_with fail
  refine (lives_any _ L3.out).mono ?_
  rintro o w4 ⟨rfl, h⟩
  have B4 := Lib.hid (B3.out.trans (h.mono B3.out.size))
  clear h
  go_wp2_with fail
  go_ret
  exact ⟨rfl, B4.out⟩

theorem mk_list' (s : ByteArray) : (⟨s.data.toList.toArray⟩ : ByteArray) = s := by
  apply ByteArray.ext; simp
theorem texts_any (s : ByteArray) (n : Int) (w : World) (L : LaidW w) :
    Calls Tryd.prog 8 #[.string s, .int .i64 n] w fun e w' => e = .returned (.bool true) ∧ Below w.heap.size w w' := by
  refine texts_core (parP s.data.toList).1 (parP s.data.toList).2 (prtE n) (prtS n) s n w L ?_ ?_ (fun w L => print_any n w L) (fun w => rprint_any n w)
  · intro w L
    have h := parse_any s.data.toList w L
    rw [mk_list'] at h
    exact h
  · intro w
    have h := rparse_any s.data.toList w
    rw [mk_list'] at h
    exact h
end Go.Proofs.YtmepocffafcibaaDoor
