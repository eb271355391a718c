/-
  NumBack: THE WALK OF THE LAW: it returns true at every int and every text, in every world in which the tables lie; of what was there nothing is turned.
-/
import Derived.Test.YtmepocffafcibaaDoorLives
import Derived.Test.YtmepocffafcibaaDoorBackLaw
namespace Go.Proofs.YtmepocffafcibaaDoor
open Go.RowKit

theorem int_beq (x : Int) : (x == x) = true := beq_self_eq_true x
theorem int_bne (x : Int) : (x != x) = false := by unfold bne; rw [int_beq]; rfl

/-- Parse of what Print wrote. -/
theorem parse_back (n : Int) (h : fitsB n = true) (w : World) (L : LaidW w) :
    Calls Tryd.prog 25 #[.string ⟨(prtS n).toArray⟩] w fun e w' => e = .returned (.tuple #[.int .i64 n, .int .i64 0]) ∧ Below w.heap.size w w' := by
  have h2 := parse_any (prtS n) w L
  rw [read_back n h] at h2
  exact h2
theorem print_fits (n : Int) (h : fitsB n = true) (w : World) (L : LaidW w) :
    Calls Tryd.prog 27 #[.int .i64 n] w fun e w' => e = .returned (.tuple #[.string ⟨(prtS n).toArray⟩, .int .i64 0]) ∧ Below w.heap.size w w' := by
  have h2 := print_any n w L
  rw [show prtE n = 0 by unfold prtE; rw [h, cond_true]] at h2
  exact h2
theorem print_not (n : Int) (h : fitsB n = false) (w : World) (L : LaidW w) :
    Calls Tryd.prog 27 #[.int .i64 n] w fun e w' => e = .returned (.tuple #[.string ⟨(prtS n).toArray⟩, .int .i64 2]) ∧ Below w.heap.size w w' := by
  have h2 := print_any n w L
  rw [show prtE n = 2 by unfold prtE; rw [h, cond_false]] at h2
  exact h2
theorem parse_gives (l : List UInt8) (x g : Int) (h : parP l = (x, g)) (w : World) (L : LaidW w) :
    Calls Tryd.prog 25 #[.string ⟨l.toArray⟩] w fun e w' => e = .returned (.tuple #[.int .i64 x, .int .i64 g]) ∧ Below w.heap.size w w' := by
  have h2 := parse_any l w L
  rw [h] at h2
  exact h2

def BackPost (w : World) (e : Ending) (w' : World) : Prop := e = .returned (.bool true) ∧ Below w.heap.size w w'

set_option maxHeartbeats 1000000 in
theorem back_core (n x g tE : Int) (t u : List UInt8) (s : ByteArray) (w : World) (L : LaidW w)
    (hP : ∀ w, LaidW w → Calls Tryd.prog 27 #[.int .i64 n] w fun e w' => e = .returned (.tuple #[.string ⟨t.toArray⟩, .int .i64 tE]) ∧ Below w.heap.size w w')
    (hT : tE = 2 ∨ tE = 0 ∧ ∀ w, LaidW w → Calls Tryd.prog 25 #[.string ⟨t.toArray⟩] w fun e w' => e = .returned (.tuple #[.int .i64 n, .int .i64 0]) ∧ Below w.heap.size w w')
    (hS : ∀ w, LaidW w → Calls Tryd.prog 25 #[.string s] w fun e w' => e = .returned (.tuple #[.int .i64 x, .int .i64 g]) ∧ Below w.heap.size w w')
    (hX : (x = 0 ∧ g ≠ 0) ∨ g = 0 ∧ (∀ w, LaidW w → Calls Tryd.prog 27 #[.int .i64 x] w fun e w' => e = .returned (.tuple #[.string ⟨u.toArray⟩, .int .i64 0]) ∧ Below w.heap.size w w') ∧ (∀ w, LaidW w → Calls Tryd.prog 25 #[.string ⟨u.toArray⟩] w fun e w' => e = .returned (.tuple #[.int .i64 x, .int .i64 0]) ∧ Below w.heap.size w w')) :
    Calls Tryd.prog 9 #[.int .i64 n, .string s] w fun e w' => BackPost w e w' := by
  have HL := Lib.hid L
  have HP := Lib.hid hP
  have HT := Lib.hid hT
  have HS := Lib.hid hS
  have HX := Lib.hid hX
  clear L hP hT hS hX
  go_enter Tryd.func9, Tryd.ntmps9
  go_wp2_with fail
  refine (HP.out _ HL.out).mono ?_
  rintro e w1 ⟨rfl, h1⟩
  have B1 := Lib.hid h1
  have L1 := Lib.hid (HL.out.below h1)
  clear h1
  rcases HT.out with rfl | ⟨rfl, hT⟩
  · clear HT
    go_wp2_with fail
    refine (HS.out _ L1.out).mono ?_
    rintro e w2 ⟨rfl, h2⟩
    have B2 := Lib.hid (B1.out.trans (h2.mono B1.out.size))
    have L2 := Lib.hid (L1.out.below h2)
    clear h2
    rcases HX.out with ⟨rfl, hg⟩ | ⟨rfl, hX1, hX2⟩
    · have hg' : (g != 0) = true := bne_iff_ne.2 hg
      clear hg HX
      go_wp2_with fail
      refine (lives_any _ L2.out).mono ?_
      rintro e w3 ⟨rfl, h3⟩
      have B3 := Lib.hid (B2.out.trans (h3.mono B2.out.size))
      clear h3
      go_wp2_with fail
      go_ret
      exact ⟨rfl, B3.out⟩
    · have HX1 := Lib.hid hX1
      have HX2 := Lib.hid hX2
      clear hX1 hX2 HX
      go_wp2_with fail
      refine (HX1.out _ L2.out).mono ?_
      rintro e w3 ⟨rfl, h3⟩
      have B3 := Lib.hid (B2.out.trans (h3.mono B2.out.size))
      have L3 := Lib.hid (L2.out.below h3)
      clear h3
      go_wp2_with fail
      refine (HX2.out _ L3.out).mono ?_
      rintro e w4 ⟨rfl, h4⟩
      have B4 := Lib.hid (B3.out.trans (h4.mono B3.out.size))
      have L4 := Lib.hid (L3.out.below h4)
      clear h4
      go_wp2_with fail
      refine (lives_any _ L4.out).mono ?_
      rintro e w5 ⟨rfl, h5⟩
      have B5 := Lib.hid (B4.out.trans (h5.mono B4.out.size))
      clear h5
      go_wp2_with fail
      go_ret
      exact ⟨rfl, B5.out⟩
  · clear HT
    have HT := Lib.hid hT
    clear hT
    go_wp2_with fail
    refine (HT.out _ L1.out).mono ?_
    rintro e w1' ⟨rfl, h2⟩
    have B1' := Lib.hid (B1.out.trans (h2.mono B1.out.size))
    have L1' := Lib.hid (L1.out.below h2)
    clear h2
    go_wp2_with fail
    refine (HS.out _ L1'.out).mono ?_
    rintro e w2 ⟨rfl, h2⟩
    have B2 := Lib.hid (B1'.out.trans (h2.mono B1'.out.size))
    have L2 := Lib.hid (L1'.out.below h2)
    clear h2
    rcases HX.out with ⟨rfl, hg⟩ | ⟨rfl, hX1, hX2⟩
    · have hg' : (g != 0) = true := bne_iff_ne.2 hg
      clear hg HX
      go_wp2_with fail
      refine (lives_any _ L2.out).mono ?_
      rintro e w3 ⟨rfl, h3⟩
      have B3 := Lib.hid (B2.out.trans (h3.mono B2.out.size))
      clear h3
      go_wp2_with fail
      go_ret
      exact ⟨rfl, B3.out⟩
    · have HX1 := Lib.hid hX1
      have HX2 := Lib.hid hX2
      clear hX1 hX2 HX
      go_wp2_with fail
      refine (HX1.out _ L2.out).mono ?_
      rintro e w3 ⟨rfl, h3⟩
      have B3 := Lib.hid (B2.out.trans (h3.mono B2.out.size))
      have L3 := Lib.hid (L2.out.below h3)
      clear h3
      go_wp2_with fail
      refine (HX2.out _ L3.out).mono ?_
      rintro e w4 ⟨rfl, h4⟩
      have B4 := Lib.hid (B3.out.trans (h4.mono B3.out.size))
      have L4 := Lib.hid (L3.out.below h4)
      clear h4
      go_wp2_with fail
      refine (lives_any _ L4.out).mono ?_
      rintro e w5 ⟨rfl, h5⟩
      have B5 := Lib.hid (B4.out.trans (h5.mono B4.out.size))
      clear h5
      go_wp2_with fail
      go_ret
      exact ⟨rfl, B5.out⟩

theorem mk_list (s : ByteArray) : (⟨s.data.toList.toArray⟩ : ByteArray) = s := by
  apply ByteArray.ext; simp
theorem back_any (n : Int) (s : ByteArray) (w : World) (L : LaidW w) :
    Calls Tryd.prog 9 #[.int .i64 n, .string s] w fun e w' => e = .returned (.bool true) ∧ Below w.heap.size w w' := by
  have hS : ∀ w, LaidW w → Calls Tryd.prog 25 #[.string s] w fun e w' => e = .returned (.tuple #[.int .i64 (parP s.data.toList).1, .int .i64 (parP s.data.toList).2]) ∧ Below w.heap.size w w' := by
    intro w L
    have h := parse_any s.data.toList w L
    rw [mk_list] at h
    exact h
  refine back_core n (parP s.data.toList).1 (parP s.data.toList).2 (prtE n) (prtS n) (prtS (parP s.data.toList).1) s w L (fun w L => print_any n w L) ?_ hS ?_
  · cases h : fitsB n with
    | false => left; unfold prtE; rw [h, cond_false]
    | true =>
      right
      exact ⟨by unfold prtE; rw [h, cond_true], fun w L => parse_back n h w L⟩
  · rcases parP_ok s.data.toList with ⟨h1, h2⟩ | ⟨h1, h2⟩
    · right
      exact ⟨h1, fun w L => print_fits _ h2 w L, fun w L => parse_back _ h2 w L⟩
    · left
      exact ⟨h2, h1⟩
end Go.Proofs.YtmepocffafcibaaDoor
