/-
  lives(): THE DOCUMENT's EXAMPLES: it returns true in every world in which the tables lie; of what was there nothing is turned.
-/
import Derived.Test.YtmepocffafcibaaDoorRound
import Derived.Test.YtmepocffafcibaaDoorText
import Derived.Test.YtmepocffafcibaaDoorModFloor
namespace Go.Proofs.YtmepocffafcibaaDoor
open Go.RowKit

theorem ex_mul (w : World) : Calls Tryd.prog 24 #[.int .i64 500000, .int .i64 3] w fun e w' => e = .returned (.tuple #[.int .i64 2, .int .i64 0]) ∧ Below w.heap.size w w' := by
  have h := mul_any 500000 3 w
  rw [show mulX 500000 3 = 2 by decide +kernel, show mulE 500000 3 = 0 by decide +kernel] at h
  exact h
theorem ex_div (w : World) : Calls Tryd.prog 14 #[.int .i64 1000000, .int .i64 3000000] w fun e w' => e = .returned (.tuple #[.int .i64 333333, .int .i64 0]) ∧ Below w.heap.size w w' := by
  have h := div_any 1000000 3000000 w
  rw [show divX 1000000 3000000 = 333333 by decide +kernel, show divE 1000000 3000000 = 0 by decide +kernel] at h
  exact h
theorem ex_div0 (w : World) : Calls Tryd.prog 14 #[.int .i64 1, .int .i64 0] w fun e w' => e = .returned (.tuple #[.int .i64 0, .int .i64 4]) ∧ Below w.heap.size w w' := by
  have h := div_any 1 0 w
  rw [show divX 1 0 = 0 by decide +kernel, show divE 1 0 = 4 by decide +kernel] at h
  exact h
theorem ex_round (w : World) : Calls Tryd.prog 10 #[.int .i64 2500000, .int .i64 0] w fun e w' => e = .returned (.tuple #[.int .i64 2000000, .int .i64 0]) ∧ Below w.heap.size w w' := by
  have h := round_any 2500000 0 w
  rw [show rouX 2500000 0 = 2000000 by decide +kernel, show rouE 2500000 0 = 0 by decide +kernel] at h
  exact h
theorem ex_mod (w : World) : Calls Tryd.prog 13 #[.int .i64 (-7000000), .int .i64 3000000] w fun e w' => e = .returned (.tuple #[.int .i64 2000000, .int .i64 0]) ∧ w = w' := by
  have h := mod_any (-7000000) 3000000 w
  rw [show modX (-7000000) 3000000 = 2000000 by decide +kernel, show modE (-7000000) 3000000 = 0 by decide +kernel] at h
  exact h
theorem dec_ex : Lib.decDigits 7500000 = [55, 53, 48, 48, 48, 48, 48] := by
  simp [Lib.decDigits]
theorem ex_print (w : World) (L : LaidW w) : Calls Tryd.prog 27 #[.int .i64 7500000] w fun e w' => e = .returned (.tuple #[.string ⟨#[55, 46, 53]⟩, .int .i64 0]) ∧ Below w.heap.size w w' := by
  have h := print_any 7500000 w L
  have e : prtS 7500000 = [55, 46, 53] := by
    unfold prtS pad
    rw [show (7500000 : Int).natAbs = 7500000 from rfl, dec_ex]
    decide +kernel
  rw [e, show prtE 7500000 = 0 by decide +kernel] at h
  exact h

set_option maxHeartbeats 400000 in
theorem lives_any (w : World) (L : LaidW w) : Calls Tryd.prog 11 #[] w fun e w' => e = .returned (.bool true) ∧ Below w.heap.size w w' := by
  have HL := Lib.hid L
  clear L
  go_enter Tryd.func11, Tryd.ntmps11
  go_wp2_with fail
  refine (ex_mul _).mono ?_
  rintro e w1 ⟨rfl, h1⟩
  have B1 := Lib.hid h1
  clear h1
  go_wp2_with fail
  refine (ex_div _).mono ?_
  rintro e w2 ⟨rfl, h2⟩
  have B2 := Lib.hid (B1.out.trans (h2.mono B1.out.size))
  clear h2 B1
  go_wp2_with fail
  refine (ex_round _).mono ?_
  rintro e w3 ⟨rfl, h3⟩
  have B3 := Lib.hid (B2.out.trans (h3.mono B2.out.size))
  clear h3 B2
  go_wp2_with fail
  refine (ex_mod _).mono ?_
  rintro e w4 ⟨rfl, rfl⟩
  go_wp2_with fail
  refine (ex_print _ (HL.out.below B3.out)).mono ?_
  rintro e w5 ⟨rfl, h5⟩
  have B5 := Lib.hid (B3.out.trans (h5.mono B3.out.size))
  clear h5 B3
  go_wp2_with fail
  refine (ex_div0 _).mono ?_
  rintro e w6 ⟨rfl, h6⟩
  have B6 := Lib.hid (B5.out.trans (h6.mono B5.out.size))
  clear h6 B5
  go_wp2_with fail
  go_ret
  exact ⟨rfl, B6.out⟩
end Go.Proofs.YtmepocffafcibaaDoor
