/-
  NumOrder: THE WALK OF THE LAW: it returns true at every two ints, in every world in which the tables lie; of what was there nothing is turned.
-/
import Derived.Test.YtmepocffafcibaaDoorLives
namespace Go.Proofs.YtmepocffafcibaaDoor
open Go.RowKit

set_option maxHeartbeats 400000 in
theorem order_fz (a b S E P G : Int) (w : World) (L : LaidW w)
    (hA1 : ∀ w, Calls Tryd.prog 18 #[.int .i64 a, .int .i64 b] w fun e w' => e = .returned (.tuple #[.int .i64 S, .int .i64 E]) ∧ w = w')
    (hA2 : ∀ w, Calls Tryd.prog 18 #[.int .i64 b, .int .i64 a] w fun e w' => e = .returned (.tuple #[.int .i64 S, .int .i64 E]) ∧ w = w')
    (hM1 : ∀ w, Calls Tryd.prog 24 #[.int .i64 a, .int .i64 b] w fun e w' => e = .returned (.tuple #[.int .i64 P, .int .i64 G]) ∧ Below w.heap.size w w')
    (hM2 : ∀ w, Calls Tryd.prog 24 #[.int .i64 b, .int .i64 a] w fun e w' => e = .returned (.tuple #[.int .i64 P, .int .i64 G]) ∧ Below w.heap.size w w')
    (hMu : ∀ w, Calls Tryd.prog 24 #[.int .i64 a, .int .i64 1000000] w fun e w' => e = .returned (.tuple #[.int .i64 a, .int .i64 0]) ∧ Below w.heap.size w w')
    (hDu : ∀ w, Calls Tryd.prog 14 #[.int .i64 a, .int .i64 1000000] w fun e w' => e = .returned (.tuple #[.int .i64 a, .int .i64 0]) ∧ Below w.heap.size w w')
    (hf : fitsB a = true) (hE : (E == 0) = true) (hS : ∀ w, Calls Tryd.prog 20 #[.int .i64 S, .int .i64 b] w fun e w' => e = .returned (.tuple #[.int .i64 a, .int .i64 0]) ∧ w = w') :
    Calls Tryd.prog 7 #[.int .i64 a, .int .i64 b] w fun e w' => e = .returned (.bool true) ∧ Below w.heap.size w w' := by
  have HL := Lib.hid L
  have HA1 := Lib.hid hA1
  have HA2 := Lib.hid hA2
  have HM1 := Lib.hid hM1
  have HM2 := Lib.hid hM2
  have HMu := Lib.hid hMu
  have HDu := Lib.hid hDu
  have HS := Lib.hid hS
  clear L hA1 hA2 hM1 hM2 hMu hDu hS
  go_enter Tryd.func7, Tryd.ntmps7
  go_wp2_with fail
  refine (HA1.out _).mono ?_
  rintro e w1 ⟨rfl, rfl⟩
  go_wp2_with fail
  refine (HA2.out _).mono ?_
  rintro e w1 ⟨rfl, rfl⟩
  go_wp2_with fail
  refine (HM1.out _).mono ?_
  rintro e w2 ⟨rfl, h2⟩
  have B2 := Lib.hid h2
  clear h2
  go_wp2_with fail
  refine (HM2.out _).mono ?_
  rintro e w3 ⟨rfl, h3⟩
  have B3 := Lib.hid (B2.out.trans (h3.mono B2.out.size))
  clear h3 B2
  go_wp2_with fail
  refine (HS.out _).mono ?_
  rintro e w1 ⟨rfl, rfl⟩
  go_wp2_with fail
  refine (HMu.out _).mono ?_
  rintro e w4 ⟨rfl, h4⟩
  have B4 := Lib.hid (B3.out.trans (h4.mono B3.out.size))
  clear h4 B3
  go_wp2_with fail
  refine (HDu.out _).mono ?_
  rintro e w5 ⟨rfl, h5⟩
  have B5 := Lib.hid (B4.out.trans (h5.mono B4.out.size))
  clear h5 B4
  go_wp2_with fail
  refine (fits_any a _).mono ?_
  rintro e w6 ⟨rfl, rfl⟩
  go_wp2_with fail
  refine (lives_any _ (HL.out.below B5.out)).mono ?_
  rintro e w7 ⟨rfl, h7⟩
  have B7 := Lib.hid (B5.out.trans (h7.mono B5.out.size))
  clear h7 B5
  go_wp2_with fail
  go_ret
  exact ⟨rfl, B7.out⟩

set_option maxHeartbeats 400000 in
theorem order_fn (a b S E P G : Int) (w : World) (L : LaidW w)
    (hA1 : ∀ w, Calls Tryd.prog 18 #[.int .i64 a, .int .i64 b] w fun e w' => e = .returned (.tuple #[.int .i64 S, .int .i64 E]) ∧ w = w')
    (hA2 : ∀ w, Calls Tryd.prog 18 #[.int .i64 b, .int .i64 a] w fun e w' => e = .returned (.tuple #[.int .i64 S, .int .i64 E]) ∧ w = w')
    (hM1 : ∀ w, Calls Tryd.prog 24 #[.int .i64 a, .int .i64 b] w fun e w' => e = .returned (.tuple #[.int .i64 P, .int .i64 G]) ∧ Below w.heap.size w w')
    (hM2 : ∀ w, Calls Tryd.prog 24 #[.int .i64 b, .int .i64 a] w fun e w' => e = .returned (.tuple #[.int .i64 P, .int .i64 G]) ∧ Below w.heap.size w w')
    (hMu : ∀ w, Calls Tryd.prog 24 #[.int .i64 a, .int .i64 1000000] w fun e w' => e = .returned (.tuple #[.int .i64 a, .int .i64 0]) ∧ Below w.heap.size w w')
    (hDu : ∀ w, Calls Tryd.prog 14 #[.int .i64 a, .int .i64 1000000] w fun e w' => e = .returned (.tuple #[.int .i64 a, .int .i64 0]) ∧ Below w.heap.size w w')
    (hf : fitsB a = true) (hE : (E == 0) = false) :
    Calls Tryd.prog 7 #[.int .i64 a, .int .i64 b] w fun e w' => e = .returned (.bool true) ∧ Below w.heap.size w w' := by
  have HL := Lib.hid L
  have HA1 := Lib.hid hA1
  have HA2 := Lib.hid hA2
  have HM1 := Lib.hid hM1
  have HM2 := Lib.hid hM2
  have HMu := Lib.hid hMu
  have HDu := Lib.hid hDu
  clear L hA1 hA2 hM1 hM2 hMu hDu
  go_enter Tryd.func7, Tryd.ntmps7
  go_wp2_with fail
  refine (HA1.out _).mono ?_
  rintro e w1 ⟨rfl, rfl⟩
  go_wp2_with fail
  refine (HA2.out _).mono ?_
  rintro e w1 ⟨rfl, rfl⟩
  go_wp2_with fail
  refine (HM1.out _).mono ?_
  rintro e w2 ⟨rfl, h2⟩
  have B2 := Lib.hid h2
  clear h2
  go_wp2_with fail
  refine (HM2.out _).mono ?_
  rintro e w3 ⟨rfl, h3⟩
  have B3 := Lib.hid (B2.out.trans (h3.mono B2.out.size))
  clear h3 B2
  go_wp2_with fail
  refine (HMu.out _).mono ?_
  rintro e w4 ⟨rfl, h4⟩
  have B4 := Lib.hid (B3.out.trans (h4.mono B3.out.size))
  clear h4 B3
  go_wp2_with fail
  refine (HDu.out _).mono ?_
  rintro e w5 ⟨rfl, h5⟩
  have B5 := Lib.hid (B4.out.trans (h5.mono B4.out.size))
  clear h5 B4
  go_wp2_with fail
  refine (fits_any a _).mono ?_
  rintro e w6 ⟨rfl, rfl⟩
  go_wp2_with fail
  refine (lives_any _ (HL.out.below B5.out)).mono ?_
  rintro e w7 ⟨rfl, h7⟩
  have B7 := Lib.hid (B5.out.trans (h7.mono B5.out.size))
  clear h7 B5
  go_wp2_with fail
  go_ret
  exact ⟨rfl, B7.out⟩

set_option maxHeartbeats 400000 in
theorem order_n (a b S E P G : Int) (w : World) (L : LaidW w)
    (hA1 : ∀ w, Calls Tryd.prog 18 #[.int .i64 a, .int .i64 b] w fun e w' => e = .returned (.tuple #[.int .i64 S, .int .i64 E]) ∧ w = w')
    (hA2 : ∀ w, Calls Tryd.prog 18 #[.int .i64 b, .int .i64 a] w fun e w' => e = .returned (.tuple #[.int .i64 S, .int .i64 E]) ∧ w = w')
    (hM1 : ∀ w, Calls Tryd.prog 24 #[.int .i64 a, .int .i64 b] w fun e w' => e = .returned (.tuple #[.int .i64 P, .int .i64 G]) ∧ Below w.heap.size w w')
    (hM2 : ∀ w, Calls Tryd.prog 24 #[.int .i64 b, .int .i64 a] w fun e w' => e = .returned (.tuple #[.int .i64 P, .int .i64 G]) ∧ Below w.heap.size w w')
    (hMu : ∀ w, Calls Tryd.prog 24 #[.int .i64 a, .int .i64 1000000] w fun e w' => e = .returned (.tuple #[.int .i64 0, .int .i64 2]) ∧ Below w.heap.size w w')
    (hDu : ∀ w, Calls Tryd.prog 14 #[.int .i64 a, .int .i64 1000000] w fun e w' => e = .returned (.tuple #[.int .i64 0, .int .i64 2]) ∧ Below w.heap.size w w')
    (hf : fitsB a = false) (hE : (E == 0) = false) :
    Calls Tryd.prog 7 #[.int .i64 a, .int .i64 b] w fun e w' => e = .returned (.bool true) ∧ Below w.heap.size w w' := by
  have HL := Lib.hid L
  have HA1 := Lib.hid hA1
  have HA2 := Lib.hid hA2
  have HM1 := Lib.hid hM1
  have HM2 := Lib.hid hM2
  have HMu := Lib.hid hMu
  have HDu := Lib.hid hDu
  clear L hA1 hA2 hM1 hM2 hMu hDu
  go_enter Tryd.func7, Tryd.ntmps7
  go_wp2_with fail
  refine (HA1.out _).mono ?_
  rintro e w1 ⟨rfl, rfl⟩
  go_wp2_with fail
  refine (HA2.out _).mono ?_
  rintro e w1 ⟨rfl, rfl⟩
  go_wp2_with fail
  refine (HM1.out _).mono ?_
  rintro e w2 ⟨rfl, h2⟩
  have B2 := Lib.hid h2
  clear h2
  go_wp2_with fail
  refine (HM2.out _).mono ?_
  rintro e w3 ⟨rfl, h3⟩
  have B3 := Lib.hid (B2.out.trans (h3.mono B2.out.size))
  clear h3 B2
  go_wp2_with fail
  refine (HMu.out _).mono ?_
  rintro e w4 ⟨rfl, h4⟩
  have B4 := Lib.hid (B3.out.trans (h4.mono B3.out.size))
  clear h4 B3
  go_wp2_with fail
  refine (HDu.out _).mono ?_
  rintro e w5 ⟨rfl, h5⟩
  have B5 := Lib.hid (B4.out.trans (h5.mono B4.out.size))
  clear h5 B4
  go_wp2_with fail
  refine (fits_any a _).mono ?_
  rintro e w6 ⟨rfl, rfl⟩
  go_wp2_with fail
  refine (lives_any _ (HL.out.below B5.out)).mono ?_
  rintro e w7 ⟨rfl, h7⟩
  have B7 := Lib.hid (B5.out.trans (h7.mono B5.out.size))
  clear h7 B5
  go_wp2_with fail
  go_ret
  exact ⟨rfl, B7.out⟩

/-! ### The plain law -/
theorem addX_comm (a b : Int) : addX b a = addX a b := by unfold addX; rw [Bool.and_comm, Int.add_comm]
theorem addE_comm (a b : Int) : addE b a = addE a b := by unfold addE; rw [Bool.and_comm, Int.add_comm]
theorem mulN_comm (a b : Int) : mulN b a = mulN a b := by unfold mulN; rw [Int.mul_comm]
theorem minusB_comm (a b : Int) : minusB b a = minusB a b := by unfold minusB; exact Bool.xor_comm _ _
theorem mulX_comm (a b : Int) : mulX b a = mulX a b := by unfold mulX; rw [Bool.and_comm, mulN_comm, minusB_comm]
theorem mulE_comm (a b : Int) : mulE b a = mulE a b := by unfold mulE; rw [Bool.and_comm, mulN_comm]

/-- What Sub makes of a sum that fits. -/
theorem sub_add (a b : Int) (h : (addE a b == 0) = true) : subX (addX a b) b = a ∧ subE (addX a b) b = 0 := by
  have h := eq_of_beq h
  unfold addE at h
  cases hab : (fitsB a && fitsB b) with
  | false => rw [hab] at h; simp at h
  | true =>
    rw [hab, cond_true] at h
    rw [Bool.and_eq_true] at hab
    unfold toldE at h
    cases hs : fitsB (a + b) with
    | false => rw [hs] at h; simp at h
    | true =>
      have e1 : addX a b = a + b := by unfold addX toldX; rw [hab.1, hab.2, hs, Bool.and_self, cond_true, cond_true]
      rw [e1]
      have e2 : a + b - b = a := by omega
      constructor
      · unfold subX toldX; rw [hs, hab.2, Bool.and_self, cond_true, e2, hab.1, cond_true]
      · unfold subE toldE; rw [hs, hab.2, Bool.and_self, cond_true, e2, hab.1, cond_true]

/-- A whole quotient is rounded to itself. -/
theorem rnd_whole (q y : Int) (hy : 1 ≤ y) : rndI q 0 y = q := by
  unfold rndI upB
  rw [decide_eq_false (show ¬ (y - 0 < 0) by omega), decide_eq_false (show ¬ ((0 : Int) = y - 0) by omega), Bool.false_and, Bool.or_false, cond_false]
theorem unit_whole (a : Int) (ha : fitsB a = true) (N y : Int) (hy : 1 ≤ y) (hN : N = (a.natAbs : Int) * y) : ovB (N / y) (N % y) y = true ∧ ovX (N / y) (N % y) y = (a.natAbs : Int) := by
  obtain ⟨a1, a2⟩ := fitsB_bounds ha
  have e1 : N / y = (a.natAbs : Int) := by rw [hN]; exact Int.mul_ediv_cancel _ (by omega)
  have e2 : N % y = 0 := by rw [hN]; exact Int.mul_emod_left _ _
  rw [e1, e2]
  constructor
  · unfold ovB; rw [rnd_whole _ _ hy]; exact decide_eq_true (by omega)
  · unfold ovX; rw [decide_eq_true (show (a.natAbs : Int) ≤ 1000000000000000000 by omega), cond_true, rnd_whole _ _ hy]
theorem putB_back (a b : Int) (hb : 0 < b) : putB (minusB a b) (a.natAbs : Int) = a := by
  unfold minusB
  rw [decide_eq_false (show ¬ b < 0 by omega), Bool.bne_false]
  by_cases h : a < 0
  · rw [decide_eq_true h]; show -(a.natAbs : Int) = a; omega
  · rw [decide_eq_false h]; show (a.natAbs : Int) = a; omega
theorem fits_unit : fitsB 1000000 = true := by decide
theorem mul_unit (a : Int) (ha : fitsB a = true) : mulX a 1000000 = a ∧ mulE a 1000000 = 0 := by
  obtain ⟨u1, u2⟩ := unit_whole a ha (mulN a 1000000) 1000000 (by omega) rfl
  constructor
  · unfold mulX; rw [ha, fits_unit, Bool.and_self, cond_true, u1, cond_true, u2]; exact putB_back a 1000000 (by omega)
  · unfold mulE; rw [ha, fits_unit, Bool.and_self, cond_true, u1, cond_true]
theorem unit_abs : ((1000000 : Int).natAbs : Int) = 1000000 := rfl
theorem unit_beq : ((1000000 : Int) == 0) = false := by decide
theorem div_unit (a : Int) (ha : fitsB a = true) : divX a 1000000 = a ∧ divE a 1000000 = 0 := by
  obtain ⟨u1, u2⟩ := unit_whole a ha (divN a) 1000000 (by omega) (by unfold divN; exact Eq.refl _)
  constructor
  · unfold divX; rw [ha, fits_unit, Bool.and_self, cond_true, unit_beq, cond_false, unit_abs, u1, cond_true, u2]; exact putB_back a 1000000 (by omega)
  · unfold divE; rw [ha, fits_unit, Bool.and_self, cond_true, unit_beq, cond_false, unit_abs, u1, cond_true]

theorem order_any (a b : Int) (w : World) (L : LaidW w) :
    Calls Tryd.prog 7 #[.int .i64 a, .int .i64 b] w fun e w' => e = .returned (.bool true) ∧ Below w.heap.size w w' := by
  have hA1 := fun w => add_any a b w
  have hA2 := fun w => add_any b a w
  rw [addX_comm, addE_comm] at hA2
  have hM1 := fun w => mul_any a b w
  have hM2 := fun w => mul_any b a w
  rw [mulX_comm, mulE_comm] at hM2
  have hMu := fun w => mul_any a 1000000 w
  have hDu := fun w => div_any a 1000000 w
  cases ha : fitsB a with
  | true =>
    rw [(mul_unit a ha).1, (mul_unit a ha).2] at hMu
    rw [(div_unit a ha).1, (div_unit a ha).2] at hDu
    cases hE : addE a b == 0 with
    | true =>
      have hS := fun w => sub_any (addX a b) b w
      rw [(sub_add a b hE).1, (sub_add a b hE).2] at hS
      exact order_fz a b _ _ _ _ w L hA1 hA2 hM1 hM2 hMu hDu ha hE hS
    | false => exact order_fn a b _ _ _ _ w L hA1 hA2 hM1 hM2 hMu hDu ha hE
  | false =>
    rw [show mulX a 1000000 = 0 by unfold mulX; rw [ha, Bool.false_and, cond_false], show mulE a 1000000 = 2 by unfold mulE; rw [ha, Bool.false_and, cond_false]] at hMu
    rw [show divX a 1000000 = 0 by unfold divX; rw [ha, Bool.false_and, cond_false], show divE a 1000000 = 2 by unfold divE; rw [ha, Bool.false_and, cond_false]] at hDu
    have hE : (addE a b == 0) = false := by unfold addE; rw [ha, Bool.false_and, cond_false]; rfl
    exact order_n a b _ _ _ _ w L hA1 hA2 hM1 hM2 hMu hDu ha hE
end Go.Proofs.YtmepocffafcibaaDoor
