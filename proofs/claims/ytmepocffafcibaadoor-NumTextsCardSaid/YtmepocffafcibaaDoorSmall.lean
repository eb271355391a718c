/-
  THE SMALL FUNCTIONS OF num AND OF THE REFERENCE: what each call returns; the world is as it was. No condition but that the arguments are ints.
-/
import Derived.Test.YtmepocffafcibaaDoorProg
import Derived.WalkKit
import Derived.WalkSpells
import Derived.WalkLawsBesides
namespace Go.Proofs.YtmepocffafcibaaDoor
open Go.RowKit

/-- Does a number fit? -/
def fitsB (n : Int) : Bool := decide (-1000000000000000000 ≤ n) && decide (n ≤ 1000000000000000000)
theorem fitsB_yes {n : Int} (h1 : -1000000000000000000 ≤ n) (h2 : n ≤ 1000000000000000000) : fitsB n = true := by simp [fitsB, h1, h2]
theorem fitsB_no {n : Int} (h : ¬ (-1000000000000000000 ≤ n ∧ n ≤ 1000000000000000000)) : fitsB n = false := by
  unfold fitsB; rw [Bool.and_eq_false_iff]; simp only [decide_eq_false_iff_not]; omega

theorem fits_yes (n : Int) (w : World) (h1 : -1000000000000000000 ≤ n) (h2 : n ≤ 1000000000000000000) :
    Calls Tryd.prog 22 #[.int .i64 n] w fun e w' => e = .returned (.bool true) ∧ w = w' := by
  go_enter Tryd.func22, Tryd.ntmps22
  go_wp2
  go_ret
  exact ⟨rfl, rfl⟩
theorem fits_no (n : Int) (w : World) (h : ¬ (-1000000000000000000 ≤ n ∧ n ≤ 1000000000000000000)) :
    Calls Tryd.prog 22 #[.int .i64 n] w fun e w' => e = .returned (.bool false) ∧ w = w' := by
  by_cases h1 : n < -1000000000000000000
  · clear h
    go_enter Tryd.func22, Tryd.ntmps22
    go_wp2
    go_ret
    exact ⟨rfl, rfl⟩
  · have h2 : 1000000000000000000 < n := by omega
    have h3 : decide (n ≤ 1000000000000000000) = false := by simp; omega
    clear h
    go_enter Tryd.func22, Tryd.ntmps22
    go_wp2
    go_ret
    exact ⟨rfl, rfl⟩
theorem fits_any (n : Int) (w : World) :
    Calls Tryd.prog 22 #[.int .i64 n] w fun e w' => e = .returned (.bool (fitsB n)) ∧ w = w' := by
  by_cases h : -1000000000000000000 ≤ n ∧ n ≤ 1000000000000000000
  · rw [fitsB_yes h.1 h.2]; exact fits_yes n w h.1 h.2
  · rw [fitsB_no h]; exact fits_no n w h
theorem rfits_yes (n : Int) (w : World) (h1 : -1000000000000000000 ≤ n) (h2 : n ≤ 1000000000000000000) :
    Calls Tryd.prog 23 #[.int .i64 n] w fun e w' => e = .returned (.bool true) ∧ w = w' := by
  go_enter Tryd.func23, Tryd.ntmps23
  go_wp2
  go_ret
  exact ⟨rfl, rfl⟩
theorem rfits_no (n : Int) (w : World) (h : ¬ (-1000000000000000000 ≤ n ∧ n ≤ 1000000000000000000)) :
    Calls Tryd.prog 23 #[.int .i64 n] w fun e w' => e = .returned (.bool false) ∧ w = w' := by
  by_cases h1 : n < -1000000000000000000
  · clear h
    go_enter Tryd.func23, Tryd.ntmps23
    go_wp2
    go_ret
    exact ⟨rfl, rfl⟩
  · have h2 : 1000000000000000000 < n := by omega
    have h3 : decide (n ≤ 1000000000000000000) = false := by simp; omega
    clear h
    go_enter Tryd.func23, Tryd.ntmps23
    go_wp2
    go_ret
    exact ⟨rfl, rfl⟩
theorem rfits_any (n : Int) (w : World) :
    Calls Tryd.prog 23 #[.int .i64 n] w fun e w' => e = .returned (.bool (fitsB n)) ∧ w = w' := by
  by_cases h : -1000000000000000000 ≤ n ∧ n ≤ 1000000000000000000
  · rw [fitsB_yes h.1 h.2]; exact rfits_yes n w h.1 h.2
  · rw [fitsB_no h]; exact rfits_no n w h

/-- What 'told' tells. -/
def toldX (n : Int) : Int := bif fitsB n then n else 0
def toldE (n : Int) : Int := bif fitsB n then 0 else 3
theorem told_any (n : Int) (w : World) :
    Calls Tryd.prog 31 #[.int .i64 n] w fun e w' => e = .returned (.tuple #[.int .i64 (toldX n), .int .i64 (toldE n)]) ∧ w = w' := by
  by_cases h : -1000000000000000000 ≤ n ∧ n ≤ 1000000000000000000
  · have e1 : toldX n = n := by unfold toldX; rw [fitsB_yes h.1 h.2]; rfl
    have e2 : toldE n = 0 := by unfold toldE; rw [fitsB_yes h.1 h.2]; rfl
    rw [e1, e2]
    clear e1 e2
    go_enter Tryd.func31, Tryd.ntmps31
    go_wp2_with (go_at_call 22; refine (fits_yes _ _ h.1 h.2).mono ?_; rintro e w' ⟨rfl, rfl⟩)
    go_ret2
    exact ⟨rfl, rfl⟩
  · have e1 : toldX n = 0 := by unfold toldX; rw [fitsB_no h]; rfl
    have e2 : toldE n = 3 := by unfold toldE; rw [fitsB_no h]; rfl
    rw [e1, e2]
    clear e1 e2
    go_enter Tryd.func31, Tryd.ntmps31
    go_wp2_with (go_at_call 22; refine (fits_no _ _ h).mono ?_; rintro e w' ⟨rfl, rfl⟩)
    go_ret2
    exact ⟨rfl, rfl⟩
theorem rtold_any (n : Int) (w : World) :
    Calls Tryd.prog 35 #[.int .i64 n] w fun e w' => e = .returned (.tuple #[.int .i64 (toldX n), .int .i64 (toldE n)]) ∧ w = w' := by
  by_cases h : -1000000000000000000 ≤ n ∧ n ≤ 1000000000000000000
  · have e1 : toldX n = n := by unfold toldX; rw [fitsB_yes h.1 h.2]; rfl
    have e2 : toldE n = 0 := by unfold toldE; rw [fitsB_yes h.1 h.2]; rfl
    rw [e1, e2]
    clear e1 e2
    go_enter Tryd.func35, Tryd.ntmps35
    go_wp2_with (go_at_call 23; refine (rfits_yes _ _ h.1 h.2).mono ?_; rintro e w' ⟨rfl, rfl⟩)
    go_ret2
    exact ⟨rfl, rfl⟩
  · have e1 : toldX n = 0 := by unfold toldX; rw [fitsB_no h]; rfl
    have e2 : toldE n = 3 := by unfold toldE; rw [fitsB_no h]; rfl
    rw [e1, e2]
    clear e1 e2
    go_enter Tryd.func35, Tryd.ntmps35
    go_wp2_with (go_at_call 23; refine (rfits_no _ _ h).mono ?_; rintro e w' ⟨rfl, rfl⟩)
    go_ret2
    exact ⟨rfl, rfl⟩

/-- 'size', 'Size': beyond the least int of all. -/
theorem size_any (n : Int) (w : World) (h1 : -9223372036854775807 ≤ n) (h2 : n ≤ 9223372036854775807) :
    Calls Tryd.prog 12 #[.int .i64 n] w fun e w' => e = .returned (.int .i64 (n.natAbs : Int)) ∧ w = w' := by
  by_cases h : 0 ≤ n
  · have e : (n.natAbs : Int) = n := by omega
    rw [e]
    clear e
    go_enter Tryd.func12, Tryd.ntmps12
    go_wp2
    go_ret
    exact ⟨rfl, rfl⟩
  · have e : (n.natAbs : Int) = -n := by omega
    rw [e]
    clear e
    go_enter Tryd.func12, Tryd.ntmps12
    go_wp2
    go_ret
    exact ⟨rfl, rfl⟩
theorem rsize_any (n : Int) (w : World) (h1 : -9223372036854775807 ≤ n) (h2 : n ≤ 9223372036854775807) :
    Calls Tryd.prog 34 #[.int .i64 n] w fun e w' => e = .returned (.int .i64 (n.natAbs : Int)) ∧ w = w' := by
  by_cases h : 0 ≤ n
  · have e : (n.natAbs : Int) = n := by omega
    rw [e]
    clear e
    go_enter Tryd.func34, Tryd.ntmps34
    go_wp2
    go_ret
    exact ⟨rfl, rfl⟩
  · have e : (n.natAbs : Int) = -n := by omega
    rw [e]
    clear e
    go_enter Tryd.func34, Tryd.ntmps34
    go_wp2
    go_ret
    exact ⟨rfl, rfl⟩

/-- What Add, Sub tell: the number, the error. -/
def addX (a b : Int) : Int := bif fitsB a && fitsB b then toldX (a + b) else 0
def addE (a b : Int) : Int := bif fitsB a && fitsB b then toldE (a + b) else 2
def subX (a b : Int) : Int := bif fitsB a && fitsB b then toldX (a - b) else 0
def subE (a b : Int) : Int := bif fitsB a && fitsB b then toldE (a - b) else 2
theorem fitsB_bounds {n : Int} (h : fitsB n = true) : -1000000000000000000 ≤ n ∧ n ≤ 1000000000000000000 := by
  unfold fitsB at h; rw [Bool.and_eq_true] at h; simpa using h
theorem add_any (a b : Int) (w : World) :
    Calls Tryd.prog 18 #[.int .i64 a, .int .i64 b] w fun e w' => e = .returned (.tuple #[.int .i64 (addX a b), .int .i64 (addE a b)]) ∧ w = w' := by
  cases ha : fitsB a with
  | false =>
    have e1 : addX a b = 0 := by unfold addX; rw [ha]; rfl
    have e2 : addE a b = 2 := by unfold addE; rw [ha]; rfl
    rw [e1, e2]
    clear e1 e2
    go_enter Tryd.func18, Tryd.ntmps18
    go_wp2_with (go_at_call 22; refine (fits_any _ _).mono ?_; rintro e w' ⟨rfl, rfl⟩)
    go_ret2
    exact ⟨rfl, rfl⟩
  | true =>
    cases hb : fitsB b with
    | false =>
      have e1 : addX a b = 0 := by unfold addX; rw [ha, hb]; rfl
      have e2 : addE a b = 2 := by unfold addE; rw [ha, hb]; rfl
      rw [e1, e2]
      clear e1 e2
      go_enter Tryd.func18, Tryd.ntmps18
      go_wp2_with (go_at_call 22; refine (fits_any _ _).mono ?_; rintro e w' ⟨rfl, rfl⟩)
      go_ret2
      exact ⟨rfl, rfl⟩
    | true =>
      have e1 : addX a b = toldX (a + b) := by unfold addX; rw [ha, hb]; rfl
      have e2 : addE a b = toldE (a + b) := by unfold addE; rw [ha, hb]; rfl
      rw [e1, e2]
      clear e1 e2
      obtain ⟨a1, a2⟩ := fitsB_bounds ha
      obtain ⟨b1, b2⟩ := fitsB_bounds hb
      go_enter Tryd.func18, Tryd.ntmps18
      go_wp2_with (first | (go_at_call 22; refine (fits_any _ _).mono ?_; rintro e w' ⟨rfl, rfl⟩) | (go_at_call 31; refine (told_any _ _).mono ?_; rintro e w' ⟨rfl, rfl⟩))
      go_ret2
      exact ⟨rfl, rfl⟩
theorem sub_any (a b : Int) (w : World) :
    Calls Tryd.prog 20 #[.int .i64 a, .int .i64 b] w fun e w' => e = .returned (.tuple #[.int .i64 (subX a b), .int .i64 (subE a b)]) ∧ w = w' := by
  cases ha : fitsB a with
  | false =>
    have e1 : subX a b = 0 := by unfold subX; rw [ha]; rfl
    have e2 : subE a b = 2 := by unfold subE; rw [ha]; rfl
    rw [e1, e2]
    clear e1 e2
    go_enter Tryd.func20, Tryd.ntmps20
    go_wp2_with (go_at_call 22; refine (fits_any _ _).mono ?_; rintro e w' ⟨rfl, rfl⟩)
    go_ret2
    exact ⟨rfl, rfl⟩
  | true =>
    cases hb : fitsB b with
    | false =>
      have e1 : subX a b = 0 := by unfold subX; rw [ha, hb]; rfl
      have e2 : subE a b = 2 := by unfold subE; rw [ha, hb]; rfl
      rw [e1, e2]
      clear e1 e2
      go_enter Tryd.func20, Tryd.ntmps20
      go_wp2_with (go_at_call 22; refine (fits_any _ _).mono ?_; rintro e w' ⟨rfl, rfl⟩)
      go_ret2
      exact ⟨rfl, rfl⟩
    | true =>
      have e1 : subX a b = toldX (a - b) := by unfold subX; rw [ha, hb]; rfl
      have e2 : subE a b = toldE (a - b) := by unfold subE; rw [ha, hb]; rfl
      rw [e1, e2]
      clear e1 e2
      obtain ⟨a1, a2⟩ := fitsB_bounds ha
      obtain ⟨b1, b2⟩ := fitsB_bounds hb
      go_enter Tryd.func20, Tryd.ntmps20
      go_wp2_with (first | (go_at_call 22; refine (fits_any _ _).mono ?_; rintro e w' ⟨rfl, rfl⟩) | (go_at_call 31; refine (told_any _ _).mono ?_; rintro e w' ⟨rfl, rfl⟩))
      go_ret2
      exact ⟨rfl, rfl⟩
theorem radd_any (a b : Int) (w : World) :
    Calls Tryd.prog 19 #[.int .i64 a, .int .i64 b] w fun e w' => e = .returned (.tuple #[.int .i64 (addX a b), .int .i64 (addE a b)]) ∧ w = w' := by
  cases ha : fitsB a with
  | false =>
    have e1 : addX a b = 0 := by unfold addX; rw [ha]; rfl
    have e2 : addE a b = 2 := by unfold addE; rw [ha]; rfl
    rw [e1, e2]
    clear e1 e2
    go_enter Tryd.func19, Tryd.ntmps19
    go_wp2_with (go_at_call 23; refine (rfits_any _ _).mono ?_; rintro e w' ⟨rfl, rfl⟩)
    go_ret2
    exact ⟨rfl, rfl⟩
  | true =>
    cases hb : fitsB b with
    | false =>
      have e1 : addX a b = 0 := by unfold addX; rw [ha, hb]; rfl
      have e2 : addE a b = 2 := by unfold addE; rw [ha, hb]; rfl
      rw [e1, e2]
      clear e1 e2
      go_enter Tryd.func19, Tryd.ntmps19
      go_wp2_with (go_at_call 23; refine (rfits_any _ _).mono ?_; rintro e w' ⟨rfl, rfl⟩)
      go_ret2
      exact ⟨rfl, rfl⟩
    | true =>
      have e1 : addX a b = toldX (a + b) := by unfold addX; rw [ha, hb]; rfl
      have e2 : addE a b = toldE (a + b) := by unfold addE; rw [ha, hb]; rfl
      rw [e1, e2]
      clear e1 e2
      obtain ⟨a1, a2⟩ := fitsB_bounds ha
      obtain ⟨b1, b2⟩ := fitsB_bounds hb
      go_enter Tryd.func19, Tryd.ntmps19
      go_wp2_with (first | (go_at_call 23; refine (rfits_any _ _).mono ?_; rintro e w' ⟨rfl, rfl⟩) | (go_at_call 35; refine (rtold_any _ _).mono ?_; rintro e w' ⟨rfl, rfl⟩))
      go_ret2
      exact ⟨rfl, rfl⟩
theorem rsub_any (a b : Int) (w : World) :
    Calls Tryd.prog 21 #[.int .i64 a, .int .i64 b] w fun e w' => e = .returned (.tuple #[.int .i64 (subX a b), .int .i64 (subE a b)]) ∧ w = w' := by
  cases ha : fitsB a with
  | false =>
    have e1 : subX a b = 0 := by unfold subX; rw [ha]; rfl
    have e2 : subE a b = 2 := by unfold subE; rw [ha]; rfl
    rw [e1, e2]
    clear e1 e2
    go_enter Tryd.func21, Tryd.ntmps21
    go_wp2_with (go_at_call 23; refine (rfits_any _ _).mono ?_; rintro e w' ⟨rfl, rfl⟩)
    go_ret2
    exact ⟨rfl, rfl⟩
  | true =>
    cases hb : fitsB b with
    | false =>
      have e1 : subX a b = 0 := by unfold subX; rw [ha, hb]; rfl
      have e2 : subE a b = 2 := by unfold subE; rw [ha, hb]; rfl
      rw [e1, e2]
      clear e1 e2
      go_enter Tryd.func21, Tryd.ntmps21
      go_wp2_with (go_at_call 23; refine (rfits_any _ _).mono ?_; rintro e w' ⟨rfl, rfl⟩)
      go_ret2
      exact ⟨rfl, rfl⟩
    | true =>
      have e1 : subX a b = toldX (a - b) := by unfold subX; rw [ha, hb]; rfl
      have e2 : subE a b = toldE (a - b) := by unfold subE; rw [ha, hb]; rfl
      rw [e1, e2]
      clear e1 e2
      obtain ⟨a1, a2⟩ := fitsB_bounds ha
      obtain ⟨b1, b2⟩ := fitsB_bounds hb
      go_enter Tryd.func21, Tryd.ntmps21
      go_wp2_with (first | (go_at_call 23; refine (rfits_any _ _).mono ?_; rintro e w' ⟨rfl, rfl⟩) | (go_at_call 35; refine (rtold_any _ _).mono ?_; rintro e w' ⟨rfl, rfl⟩))
      go_ret2
      exact ⟨rfl, rfl⟩
end Go.Proofs.YtmepocffafcibaaDoor
