/-
  times, over, Mul, Div, Mod: what each call returns, at any two ints; of what was there when the call began nothing is turned.
-/
import Derived.Test.YtmepocffafcibaaDoorDivA
namespace Go.Proofs.YtmepocffafcibaaDoor
open Go.RowKit

theorem mul64_any (a b : Int) (w : World) (ha0 : 0 ≤ a) (ha1 : a ≤ 18446744073709551615) (hb0 : 0 ≤ b) (hb1 : b ≤ 18446744073709551615) :
    Calls Tryd.prog 48 #[.int .u64 a, .int .u64 b] w fun e w' => e = .returned (.tuple #[.int .u64 (a * b / 18446744073709551616), .int .u64 (a * b % 18446744073709551616)]) ∧ w = w' := by
  obtain ⟨x, rfl⟩ := Int.eq_ofNat_of_zero_le ha0
  obtain ⟨y, rfl⟩ := Int.eq_ofNat_of_zero_le hb0
  have c := Tryd.bits_Mul64 x y (by omega) (by omega) w
  exact c.mono fun _ _ ⟨h, g⟩ => ⟨h, g.symm⟩

theorem times_any (a b : Int) (w : World) (ha0 : 0 ≤ a) (ha1 : a ≤ 18446744073709551615) (hb0 : 0 ≤ b) (hb1 : b ≤ 18446744073709551615) :
    Calls Tryd.prog 32 #[.int .u64 a, .int .u64 b] w fun e w' => e = .returned (.agg #[.int .u64 (a * b / 18446744073709551616), .int .u64 (a * b % 18446744073709551616)]) ∧ Below w.heap.size w w' := by
  have HM := Lib.hid (mul64_any a b)
  obtain ⟨hi, ehi⟩ : ∃ hi, a * b / 18446744073709551616 = hi := ⟨_, rfl⟩
  obtain ⟨lo, elo⟩ : ∃ lo, a * b % 18446744073709551616 = lo := ⟨_, rfl⟩
  rw [ehi, elo] at HM ⊢
  clear ehi elo
  go_enter Tryd.func32, Tryd.ntmps32
  go_wp2_with (go_at_call 48; refine (HM.out _ ha0 ha1 hb0 hb1).mono ?_; rintro e w' ⟨rfl, rfl⟩)
  exact bodyPost_ret (v := .agg #[.int .u64 hi, .int .u64 lo]) (by simp [results, Tryd.results32, go_sem]) rfl ⟨rfl, (Below.refl _ _).alloc (Nat.le_refl _) _⟩

/-- '(pair).over' at any two words and any divisor but 0. -/
theorem over_all (h l y : Int) (w : World) (hh0 : 0 ≤ h) (hl0 : 0 ≤ l) (hl1 : l ≤ 18446744073709551615) (hy0 : 1 ≤ y) (hy1 : y ≤ 18446744073709551615) :
    Calls Tryd.prog 30 #[.agg #[.int .u64 h, .int .u64 l], .int .u64 y] w fun e w' => e = .returned (.tuple #[.int .i64 (ovX ((h * 18446744073709551616 + l) / y) ((h * 18446744073709551616 + l) % y) y), .bool (ovB ((h * 18446744073709551616 + l) / y) ((h * 18446744073709551616 + l) % y) y)]) ∧ Below w.heap.size w w' := by
  have hN0 : 0 ≤ h * 18446744073709551616 + l := by omega
  have hq0 : 0 ≤ (h * 18446744073709551616 + l) / y := Int.ediv_nonneg hN0 (by omega)
  have hr0 : 0 ≤ (h * 18446744073709551616 + l) % y := Int.emod_nonneg _ (by omega)
  have hr1 : (h * 18446744073709551616 + l) % y < y := Int.emod_lt_of_pos _ (by omega)
  by_cases hy : h < y
  · exact over_any h l y w _ _ (div64_any h l y hh0 hy hy1 hl0 hl1) hy hq0 hr0 hr1 hy1
  · have hbig : 18446744073709551616 ≤ (h * 18446744073709551616 + l) / y := by
      rw [Int.le_ediv_iff_mul_le (by omega)]; omega
    obtain ⟨q, eq⟩ : ∃ q, (h * 18446744073709551616 + l) / y = q := ⟨_, rfl⟩
    obtain ⟨r, er⟩ : ∃ r, (h * 18446744073709551616 + l) % y = r := ⟨_, rfl⟩
    rw [eq, er]
    rw [eq] at hbig
    have hx : ovX q r y = 0 := by unfold ovX; rw [decide_eq_false (by omega)]; rfl
    have hb : ovB q r y = false := by
      unfold ovB; rw [decide_eq_false_iff_not]; unfold rndI; cases upB q r y <;> simp only [cond_true, cond_false] <;> omega
    rw [hx, hb]
    exact over_far h l y w (by omega)

/-- A product's two words, and what Mul tells of it: rounded to millionths. -/
def mulN (a b : Int) : Int := (a.natAbs : Int) * (b.natAbs : Int)
def mulX (a b : Int) : Int := bif fitsB a && fitsB b then (bif ovB (mulN a b / 1000000) (mulN a b % 1000000) 1000000 then putB (minusB a b) (ovX (mulN a b / 1000000) (mulN a b % 1000000) 1000000) else 0) else 0
def mulE (a b : Int) : Int := bif fitsB a && fitsB b then (bif ovB (mulN a b / 1000000) (mulN a b % 1000000) 1000000 then 0 else 3) else 2

theorem ovX_bounds {q r y : Int} (h0 : 0 ≤ q) (h : ovB q r y = true) : 0 ≤ ovX q r y ∧ ovX q r y ≤ 1000000000000000000 := by
  have h2 : rndI q r y ≤ 1000000000000000000 := by unfold ovB at h; exact of_decide_eq_true h
  have h3 : q ≤ rndI q r y := by unfold rndI; cases upB q r y <;> simp only [cond_true, cond_false] <;> omega
  unfold ovX
  rw [decide_eq_true (by omega)]
  exact ⟨by simp only [cond_true]; omega, by simpa using h2⟩

theorem cell_box (w w2 w3 : World) (m : Bool) (h2 : Below (w.alloc (.cells #[.bool m] 4)).heap.size (w.alloc (.cells #[.bool m] 4)) w2) (h3 : Below w2.heap.size w2 w3) : w3.cell? ⟨w.heap.size, 0, none⟩ = some (.bool m) := by
  have hs := h2.size
  have hz : (w.alloc (.cells #[.bool m] 4)).heap.size = w.heap.size + 1 := by simp
  rw [h3.cell (p := ⟨w.heap.size, 0, none⟩) (by show w.heap.size < w2.heap.size; omega), h2.cell (p := ⟨w.heap.size, 0, none⟩) (by show w.heap.size < _; omega)]
  simp [World.cell?_alloc_new]
theorem below_box2 (w w2 w3 : World) (o : Obj) (h2 : Below (w.alloc o).heap.size (w.alloc o) w2) (h3 : Below w2.heap.size w2 w3) : Below w.heap.size w w3 := by
  have hs := h2.size
  have hz : (w.alloc o).heap.size = w.heap.size + 1 := by simp
  exact (((Below.refl _ _).alloc (Nat.le_refl _) o).trans (h2.mono (by omega))).trans (h3.mono (by omega))

set_option maxHeartbeats 400000 in
theorem mul_any (a b : Int) (w : World) :
    Calls Tryd.prog 24 #[.int .i64 a, .int .i64 b] w fun e w' => e = .returned (.tuple #[.int .i64 (mulX a b), .int .i64 (mulE a b)]) ∧ Below w.heap.size w w' := by
  cases ha : fitsB a with
  | false =>
    have e1 : mulX a b = 0 := by unfold mulX; rw [ha]; rfl
    have e2 : mulE a b = 2 := by unfold mulE; rw [ha]; rfl
    rw [e1, e2]
    clear e1 e2
    go_enter Tryd.func24, Tryd.ntmps24
    go_wp2_with (go_at_call 22; refine (fits_any _ _).mono ?_; rintro e w' ⟨rfl, rfl⟩)
    go_ret2
    exact ⟨rfl, Below.refl _ _⟩
  | true =>
    cases hb : fitsB b with
    | false =>
      have e1 : mulX a b = 0 := by unfold mulX; rw [ha, hb]; rfl
      have e2 : mulE a b = 2 := by unfold mulE; rw [ha, hb]; rfl
      rw [e1, e2]
      clear e1 e2
      go_enter Tryd.func24, Tryd.ntmps24
      go_wp2_with (go_at_call 22; refine (fits_any _ _).mono ?_; rintro e w' ⟨rfl, rfl⟩)
      go_ret2
      exact ⟨rfl, Below.refl _ _⟩
    | true =>
      obtain ⟨a1, a2⟩ := fitsB_bounds ha
      obtain ⟨b1, b2⟩ := fitsB_bounds hb
      have e1 : mulX a b = (bif ovB (mulN a b / 1000000) (mulN a b % 1000000) 1000000 then putB (minusB a b) (ovX (mulN a b / 1000000) (mulN a b % 1000000) 1000000) else 0) := by unfold mulX; rw [ha, hb, Bool.and_self, cond_true]
      have e2 : mulE a b = (bif ovB (mulN a b / 1000000) (mulN a b % 1000000) 1000000 then 0 else 3) := by unfold mulE; rw [ha, hb, Bool.and_self, cond_true]
      have n1 : 0 ≤ (a.natAbs : Int) * (b.natAbs : Int) := Int.mul_nonneg (by omega) (by omega)
      have hO := fun w => over_all (mulN a b / 18446744073709551616) (mulN a b % 18446744073709551616) 1000000 w (by unfold mulN; omega) (by unfold mulN; omega) (by unfold mulN; omega) (by omega) (by omega)
      rw [show mulN a b / 18446744073709551616 * 18446744073709551616 + mulN a b % 18446744073709551616 = mulN a b by omega] at hO
      have hT := fun w => times_any (a.natAbs : Int) (b.natAbs : Int) w (by omega) (by omega) (by omega) (by omega)
      have hq0 : 0 ≤ mulN a b / 1000000 := by unfold mulN; omega
      change ∀ w, Calls Tryd.prog 32 _ w fun e w' => e = .returned (.agg #[.int .u64 (mulN a b / 18446744073709551616), .int .u64 (mulN a b % 18446744073709551616)]) ∧ Below w.heap.size w w' at hT
      obtain ⟨hi, ehi⟩ : ∃ hi, mulN a b / 18446744073709551616 = hi := ⟨_, rfl⟩
      obtain ⟨lo, elo⟩ : ∃ lo, mulN a b % 18446744073709551616 = lo := ⟨_, rfl⟩
      rw [ehi, elo] at hO hT
      have hBx := @ovX_bounds (mulN a b / 1000000) (mulN a b % 1000000) 1000000 hq0
      obtain ⟨ok, eok⟩ : ∃ ok, ovB (mulN a b / 1000000) (mulN a b % 1000000) 1000000 = ok := ⟨_, rfl⟩
      obtain ⟨x, ex⟩ : ∃ x, ovX (mulN a b / 1000000) (mulN a b % 1000000) 1000000 = x := ⟨_, rfl⟩
      rw [eok, ex] at e1 hO hBx
      rw [eok] at e2
      rw [e1, e2]
      clear e1 e2 ehi elo eok ex n1 hq0
      have HO := Lib.hid hO
      have HT := Lib.hid hT
      have HB := Lib.hid hBx
      clear hO hT hBx
      go_enter Tryd.func24, Tryd.ntmps24
      go_wp2_with (go_at_call 22; refine (fits_any _ _).mono ?_; rintro e w' ⟨rfl, rfl⟩)
      refine (bare_any a b w (by omega) (by omega) (by omega) (by omega)).mono ?_
      rintro e w1 ⟨rfl, rfl⟩
      unfold signF
      go_wp2_with fail
      refine (HT.out _).mono ?_
      rintro e w2 ⟨rfl, hw2⟩
      go_wp2_with fail
      refine (HO.out _).mono ?_
      rintro e w3 ⟨rfl, hw3⟩
      have hcell := Lib.hid (cell_box w w2 w3 _ hw2 hw3)
      have hbel := Lib.hid (below_box2 w w2 w3 _ hw2 hw3)
      clear hw2 hw3
      cases ok with
      | false =>
        go_wp2_with fail
        go_ret2
        exact ⟨rfl, hbel.out⟩
      | true =>
        obtain ⟨x0, x1⟩ := HB.out rfl
        clear HB
        go_wp2_with fail
        refine (sign_any (minusB a b) x w.heap.size w3 (by omega) (by omega) hcell.out).mono ?_
        rintro e w4 ⟨rfl, rfl⟩
        go_wp2_with fail
        go_ret2
        exact ⟨rfl, hbel.out⟩

/-- What Div tells: the quotient rounded to millionths. -/
def divN (a : Int) : Int := (a.natAbs : Int) * 1000000
def divX (a b : Int) : Int := bif fitsB a && fitsB b then (bif b == 0 then 0 else (bif ovB (divN a / (b.natAbs : Int)) (divN a % (b.natAbs : Int)) (b.natAbs : Int) then putB (minusB a b) (ovX (divN a / (b.natAbs : Int)) (divN a % (b.natAbs : Int)) (b.natAbs : Int)) else 0)) else 0
def divE (a b : Int) : Int := bif fitsB a && fitsB b then (bif b == 0 then 4 else (bif ovB (divN a / (b.natAbs : Int)) (divN a % (b.natAbs : Int)) (b.natAbs : Int) then 0 else 3)) else 2

set_option maxHeartbeats 400000 in
theorem div_any (a b : Int) (w : World) :
    Calls Tryd.prog 14 #[.int .i64 a, .int .i64 b] w fun e w' => e = .returned (.tuple #[.int .i64 (divX a b), .int .i64 (divE a b)]) ∧ Below w.heap.size w w' := by
  cases ha : fitsB a with
  | false =>
    have e1 : divX a b = 0 := by unfold divX; rw [ha]; rfl
    have e2 : divE a b = 2 := by unfold divE; rw [ha]; rfl
    rw [e1, e2]
    clear e1 e2
    go_enter Tryd.func14, Tryd.ntmps14
    go_wp2_with (go_at_call 22; refine (fits_any _ _).mono ?_; rintro e w' ⟨rfl, rfl⟩)
    go_ret2
    exact ⟨rfl, Below.refl _ _⟩
  | true =>
    cases hb : fitsB b with
    | false =>
      have e1 : divX a b = 0 := by unfold divX; rw [ha, hb]; rfl
      have e2 : divE a b = 2 := by unfold divE; rw [ha, hb]; rfl
      rw [e1, e2]
      clear e1 e2
      go_enter Tryd.func14, Tryd.ntmps14
      go_wp2_with (go_at_call 22; refine (fits_any _ _).mono ?_; rintro e w' ⟨rfl, rfl⟩)
      go_ret2
      exact ⟨rfl, Below.refl _ _⟩
    | true =>
      cases hz : b == 0 with
      | true =>
        have e1 : divX a b = 0 := by unfold divX; rw [ha, hb, hz]; rfl
        have e2 : divE a b = 4 := by unfold divE; rw [ha, hb, hz]; rfl
        rw [e1, e2]
        clear e1 e2
        go_enter Tryd.func14, Tryd.ntmps14
        go_wp2_with (go_at_call 22; refine (fits_any _ _).mono ?_; rintro e w' ⟨rfl, rfl⟩)
        go_ret2
        exact ⟨rfl, Below.refl _ _⟩
      | false =>
        obtain ⟨a1, a2⟩ := fitsB_bounds ha
        obtain ⟨b1, b2⟩ := fitsB_bounds hb
        have bz : b ≠ 0 := by simpa using hz
        have e1 : divX a b = (bif ovB (divN a / (b.natAbs : Int)) (divN a % (b.natAbs : Int)) (b.natAbs : Int) then putB (minusB a b) (ovX (divN a / (b.natAbs : Int)) (divN a % (b.natAbs : Int)) (b.natAbs : Int)) else 0) := by unfold divX; rw [ha, hb, hz, Bool.and_self, cond_true, cond_false]
        have e2 : divE a b = (bif ovB (divN a / (b.natAbs : Int)) (divN a % (b.natAbs : Int)) (b.natAbs : Int) then 0 else 3) := by unfold divE; rw [ha, hb, hz, Bool.and_self, cond_true, cond_false]
        have hO := fun w => over_all (divN a / 18446744073709551616) (divN a % 18446744073709551616) (b.natAbs : Int) w (by unfold divN; omega) (by unfold divN; omega) (by unfold divN; omega) (by omega) (by omega)
        rw [show divN a / 18446744073709551616 * 18446744073709551616 + divN a % 18446744073709551616 = divN a by omega] at hO
        have hT := fun w => times_any (a.natAbs : Int) 1000000 w (by omega) (by omega) (by omega) (by omega)
        have hq0 : 0 ≤ divN a / (b.natAbs : Int) := Int.ediv_nonneg (by unfold divN; omega) (by omega)
        change ∀ w, Calls Tryd.prog 32 _ w fun e w' => e = .returned (.agg #[.int .u64 (divN a / 18446744073709551616), .int .u64 (divN a % 18446744073709551616)]) ∧ Below w.heap.size w w' at hT
        obtain ⟨hi, ehi⟩ : ∃ hi, divN a / 18446744073709551616 = hi := ⟨_, rfl⟩
        obtain ⟨lo, elo⟩ : ∃ lo, divN a % 18446744073709551616 = lo := ⟨_, rfl⟩
        rw [ehi, elo] at hO hT
        have hBx := @ovX_bounds (divN a / (b.natAbs : Int)) (divN a % (b.natAbs : Int)) (b.natAbs : Int) hq0
        obtain ⟨ok, eok⟩ : ∃ ok, ovB (divN a / (b.natAbs : Int)) (divN a % (b.natAbs : Int)) (b.natAbs : Int) = ok := ⟨_, rfl⟩
        obtain ⟨x, ex⟩ : ∃ x, ovX (divN a / (b.natAbs : Int)) (divN a % (b.natAbs : Int)) (b.natAbs : Int) = x := ⟨_, rfl⟩
        rw [eok, ex] at e1 hO hBx
        rw [eok] at e2
        rw [e1, e2]
        clear e1 e2 ehi elo eok ex hq0 bz
        have HO := Lib.hid hO
        have HT := Lib.hid hT
        have HB := Lib.hid hBx
        clear hO hT hBx
        go_enter Tryd.func14, Tryd.ntmps14
        go_wp2_with (go_at_call 22; refine (fits_any _ _).mono ?_; rintro e w' ⟨rfl, rfl⟩)
        refine (bare_any a b w (by omega) (by omega) (by omega) (by omega)).mono ?_
        rintro e w1 ⟨rfl, rfl⟩
        unfold signF
        go_wp2_with fail
        refine (HT.out _).mono ?_
        rintro e w2 ⟨rfl, hw2⟩
        go_wp2_with fail
        refine (HO.out _).mono ?_
        rintro e w3 ⟨rfl, hw3⟩
        have hcell := Lib.hid (cell_box w w2 w3 _ hw2 hw3)
        have hbel := Lib.hid (below_box2 w w2 w3 _ hw2 hw3)
        clear hw2 hw3
        cases ok with
        | false =>
          go_wp2_with fail
          go_ret2
          exact ⟨rfl, hbel.out⟩
        | true =>
          obtain ⟨x0, x1⟩ := HB.out rfl
          clear HB
          go_wp2_with fail
          refine (sign_any (minusB a b) x w.heap.size w3 (by omega) (by omega) hcell.out).mono ?_
          rintro e w4 ⟨rfl, rfl⟩
          go_wp2_with fail
          go_ret2
          exact ⟨rfl, hbel.out⟩

end Go.Proofs.YtmepocffafcibaaDoor
