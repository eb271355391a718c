/-
  NumHalves: THE WALK OF THE LAW: it returns true at every two ints, in every world in which the tables lie; of what was there nothing is turned.
-/
import Derived.Test.YtmepocffafcibaaDoorLives
namespace Go.Proofs.YtmepocffafcibaaDoor
open Go.RowKit

set_option maxHeartbeats 400000 in
theorem halves_no (n p : Int) (w : World) (L : LaidW w) (h : rouOk n p = false) :
    Calls Tryd.prog 3 #[.int .i64 n, .int .i64 p] w fun e w' => e = .returned (.bool true) ∧ Below w.heap.size w w' := by
  have HR := Lib.hid (round_any n p w)
  have e1 : rouX n p = 0 := by unfold rouX; rw [h]; rfl
  have e2 : rouE n p = 2 := by unfold rouE; rw [h]; rfl
  rw [e1, e2] at HR
  have HL := Lib.hid L
  clear e1 e2 L h
  go_enter Tryd.func3, Tryd.ntmps3
  go_wp2_with fail
  refine HR.out.mono ?_
  rintro e w1 ⟨rfl, h1⟩
  have B1 := Lib.hid h1
  clear h1 HR
  go_wp2_with fail
  refine (lives_any _ (HL.out.below B1.out)).mono ?_
  rintro e w2 ⟨rfl, h2⟩
  have B2 := Lib.hid (B1.out.trans (h2.mono B1.out.size))
  clear h2 B1
  go_wp2_with fail
  go_ret
  exact ⟨rfl, B2.out⟩

set_option maxHeartbeats 400000 in
theorem halves_a (n p y X F : Int) (w : World) (L : LaidW w) (hp1 : -12 ≤ p) (hp2 : p ≤ 6) (hn1 : -1000000000000000000 ≤ n) (hn2 : n ≤ 1000000000000000000)
    (hR : Calls Tryd.prog 10 #[.int .i64 n, .int .i64 p] w fun e w' => e = .returned (.tuple #[.int .i64 X, .int .i64 0]) ∧ Below w.heap.size w w')
    (hX1 : -1000000000000000000 ≤ X) (hX2 : X ≤ 1000000000000000000) (hy : tenP (6 - p).toNat = y) (hy1 : 1 ≤ y) (_hy2 : y ≤ 1000000000000000000)
    (hmod : X.tmod y = 0) (hF : ((X - n).natAbs : Int) = F) (_hF1 : 0 ≤ F) (_hF2 : F ≤ 2000000000000000000) (hlt : F < y - F) :
    Calls Tryd.prog 3 #[.int .i64 n, .int .i64 p] w fun e w' => e = .returned (.bool true) ∧ Below w.heap.size w w' := by
  have HY := Lib.hid hy
  have HR := Lib.hid hR
  have HL := Lib.hid L
  have HF := Lib.hid hF
  clear hy hR L hF
  go_enter Tryd.func3, Tryd.ntmps3
  go_wp2_with fail
  refine HR.out.mono ?_
  rintro e w1 ⟨rfl, h1⟩
  have B1 := Lib.hid h1
  clear h1 HR
  go_wp2_with fail
  go_loop [7, 8] (fun t i => ∃ k : Nat, p + (k : Int) ≤ 6 ∧ i = .int .i64 (p + (k : Int)) ∧ t = .int .i64 (tenP k)) (fun _ i => (6 - intOf i).toNat)
  case atStart => exact ⟨0, by omega, by rw [show p + ((0 : Nat) : Int) = p by omega], rfl⟩
  case round =>
    obtain ⟨k, hk, rfl, rfl⟩ := hrel
    by_cases hlt : p + (k : Int) < 6
    · have t1 := tenP_pos k
      have t3 := tenP_le (k + 1) (by omega)
      have t4 := Lib.hid (tenP_succ k)
      rw [tenP_succ] at t3
      go_wp2_with fail
      go_round
      case rel => exact ⟨k + 1, by omega, by rw [show p + ((k + 1 : Nat) : Int) = p + (k : Int) + 1 by omega], by rw [t4.out, Int.mul_comm]⟩
      case measure => simp [intOf]; omega
    · have ek : (6 - p).toNat = k := by omega
      have ey : tenP k = y := by rw [← HY.out, ek]
      clear ek
      rw [ey]
      clear ey
      go_wp2_with fail
      refine (size_any (X - n) _ (by omega) (by omega)).mono ?_
      rintro e w2 ⟨rfl, rfl⟩
      rw [HF.out]
      go_wp2_with fail
      refine (lives_any _ (HL.out.below B1.out)).mono ?_
      rintro e w3 ⟨rfl, h3⟩
      have B3 := Lib.hid (B1.out.trans (h3.mono B1.out.size))
      clear h3 B1
      go_wp2_with fail
      go_ret
      exact ⟨rfl, B3.out⟩

set_option maxHeartbeats 400000 in
theorem halves_b (n p y X F : Int) (w : World) (L : LaidW w) (hp1 : -12 ≤ p) (hp2 : p ≤ 6) (hn1 : -1000000000000000000 ≤ n) (hn2 : n ≤ 1000000000000000000)
    (hR : Calls Tryd.prog 10 #[.int .i64 n, .int .i64 p] w fun e w' => e = .returned (.tuple #[.int .i64 X, .int .i64 0]) ∧ Below w.heap.size w w')
    (hX1 : -1000000000000000000 ≤ X) (hX2 : X ≤ 1000000000000000000) (hy : tenP (6 - p).toNat = y) (hy1 : 1 ≤ y) (_hy2 : y ≤ 1000000000000000000)
    (hmod : X.tmod y = 0) (hF : ((X - n).natAbs : Int) = F) (_hF1 : 0 ≤ F) (_hF2 : F ≤ 2000000000000000000) (heq : (F == y - F) = true) (hpar : (X.tdiv y).tmod 2 = 0) :
    Calls Tryd.prog 3 #[.int .i64 n, .int .i64 p] w fun e w' => e = .returned (.bool true) ∧ Below w.heap.size w w' := by
  have HY := Lib.hid hy
  have HR := Lib.hid hR
  have HL := Lib.hid L
  have HF := Lib.hid hF
  have hnl : decide (F < y - F) = false := decide_eq_false (by have := eq_of_beq heq; omega)
  clear hy hR L hF
  go_enter Tryd.func3, Tryd.ntmps3
  go_wp2_with fail
  refine HR.out.mono ?_
  rintro e w1 ⟨rfl, h1⟩
  have B1 := Lib.hid h1
  clear h1 HR
  go_wp2_with fail
  go_loop [7, 8] (fun t i => ∃ k : Nat, p + (k : Int) ≤ 6 ∧ i = .int .i64 (p + (k : Int)) ∧ t = .int .i64 (tenP k)) (fun _ i => (6 - intOf i).toNat)
  case atStart => exact ⟨0, by omega, by rw [show p + ((0 : Nat) : Int) = p by omega], rfl⟩
  case round =>
    obtain ⟨k, hk, rfl, rfl⟩ := hrel
    by_cases hlt : p + (k : Int) < 6
    · have t1 := tenP_pos k
      have t3 := tenP_le (k + 1) (by omega)
      have t4 := Lib.hid (tenP_succ k)
      rw [tenP_succ] at t3
      go_wp2_with fail
      go_round
      case rel => exact ⟨k + 1, by omega, by rw [show p + ((k + 1 : Nat) : Int) = p + (k : Int) + 1 by omega], by rw [t4.out, Int.mul_comm]⟩
      case measure => simp [intOf]; omega
    · have ek : (6 - p).toNat = k := by omega
      have ey : tenP k = y := by rw [← HY.out, ek]
      clear ek
      rw [ey]
      clear ey
      go_wp2_with fail
      refine (size_any (X - n) _ (by omega) (by omega)).mono ?_
      rintro e w2 ⟨rfl, rfl⟩
      rw [HF.out]
      go_wp2_with fail
      refine (lives_any _ (HL.out.below B1.out)).mono ?_
      rintro e w3 ⟨rfl, h3⟩
      have B3 := Lib.hid (B1.out.trans (h3.mono B1.out.size))
      clear h3 B1
      go_wp2_with fail
      go_ret
      exact ⟨rfl, B3.out⟩

theorem putB_tmod (b : Bool) (m y : Int) : (putB b (m * y)).tmod y = 0 := by
  cases b
  · show (m * y).tmod y = 0
    exact Int.mul_tmod_left m y
  · show (-(m * y)).tmod y = 0
    rw [Int.neg_tmod, Int.mul_tmod_left]; rfl
theorem putB_tdiv (b : Bool) (m y : Int) (hy : 1 ≤ y) (hm : m % 2 = 0) : ((putB b (m * y)).tdiv y).tmod 2 = 0 := by
  have e : (m * y).tdiv y = m := Int.mul_tdiv_cancel m (by omega)
  cases b
  · show ((m * y).tdiv y).tmod 2 = 0
    rw [e]
    exact Int.tmod_eq_zero_of_dvd (Int.dvd_of_emod_eq_zero hm)
  · show ((-(m * y)).tdiv y).tmod 2 = 0
    rw [Int.neg_tdiv, e, Int.neg_tmod, Int.tmod_eq_zero_of_dvd (Int.dvd_of_emod_eq_zero hm)]; rfl

theorem halves_any (n p : Int) (w : World) (L : LaidW w) :
    Calls Tryd.prog 3 #[.int .i64 n, .int .i64 p] w fun e w' => e = .returned (.bool true) ∧ Below w.heap.size w w' := by
  cases hok : rouOk n p with
  | false => exact halves_no n p w L hok
  | true =>
    have hok' := hok
    unfold rouOk at hok'
    rw [Bool.and_eq_true, Bool.and_eq_true, decide_eq_true_iff, decide_eq_true_iff] at hok'
    obtain ⟨hf, hp1, hp2⟩ := hok'
    obtain ⟨a1, a2⟩ := fitsB_bounds hf
    have hR := round_any n p w
    have e1 : rouX n p = putB (decide (n < 0)) (rouM n (tenP (6 - p).toNat) * tenP (6 - p).toNat) := by unfold rouX; rw [hok]; rfl
    have e2 : rouE n p = 0 := by unfold rouE; rw [hok]; rfl
    rw [e1, e2] at hR
    have t1 := tenP_pos (6 - p).toNat
    have t2 := tenP_le (6 - p).toNat (by omega)
    obtain ⟨m0, m1, m2, m3⟩ := rouM_bounds n (6 - p).toNat (by omega) a1 a2
    obtain ⟨z1, z2⟩ := putB_bounds (decide (n < 0)) _ _ m0 m1
    have hN : 0 ≤ (n.natAbs : Int) := by omega
    have hmod := putB_tmod (decide (n < 0)) (rouM n (tenP (6 - p).toNat)) (tenP (6 - p).toNat)
    have hdiv := putB_tdiv (decide (n < 0)) (rouM n (tenP (6 - p).toNat)) (tenP (6 - p).toNat) t1
    have hy : tenP (6 - p).toNat = tenP (6 - p).toNat := rfl
    -- how far off
    have hoff : ((putB (decide (n < 0)) (rouM n (tenP (6 - p).toNat) * tenP (6 - p).toNat) - n).natAbs : Int) = ((rouM n (tenP (6 - p).toNat) * tenP (6 - p).toNat - (n.natAbs : Int)).natAbs : Int) := by
      by_cases hneg : n < 0
      · rw [decide_eq_true hneg]; show (((-(rouM n (tenP (6 - p).toNat) * tenP (6 - p).toNat) - n).natAbs : Nat) : Int) = _; omega
      · rw [decide_eq_false hneg]; show (((rouM n (tenP (6 - p).toNat) * tenP (6 - p).toNat - n).natAbs : Nat) : Int) = _; omega
    generalize hyy : tenP (6 - p).toNat = y at *
    have hq0 : 0 ≤ (n.natAbs : Int) / y := Int.ediv_nonneg hN (by omega)
    have hr0 : 0 ≤ (n.natAbs : Int) % y := Int.emod_nonneg _ (by omega)
    have hr1 : (n.natAbs : Int) % y < y := Int.emod_lt_of_pos _ (by omega)
    have hd : (n.natAbs : Int) / y * y + (n.natAbs : Int) % y = (n.natAbs : Int) := by rw [Int.mul_comm]; exact Int.mul_ediv_add_emod _ y
    have hup : ∀ {q r : Int}, upB q r y = true ↔ (y - r < r ∨ (r = y - r ∧ q % 2 = 1)) := by
      intro q r; unfold upB; rw [Bool.or_eq_true, Bool.and_eq_true, decide_eq_true_iff, decide_eq_true_iff, decide_eq_true_iff]
    unfold rouM rndI at hR hmod hdiv hoff z1 z2
    generalize (n.natAbs : Int) / y = q at *
    generalize (n.natAbs : Int) % y = r at *
    cases hu : upB q r y with
    | true =>
      rw [hu] at hR hmod hdiv hoff z1 z2
      simp only [cond_true] at hR hmod hdiv hoff z1 z2
      have hu' := hup.1 hu
      have hx : (q + 1) * y = q * y + y := by rw [Int.add_mul, Int.one_mul]
      have hF : ((putB (decide (n < 0)) ((q + 1) * y) - n).natAbs : Int) = y - r := by rw [hoff]; omega
      by_cases c1 : y - r < r
      · exact halves_a n p y _ (y - r) w L hp1 hp2 a1 a2 hR z1 z2 hyy t1 t2 hmod hF (by omega) (by omega) (by omega)
      · exact halves_b n p y _ (y - r) w L hp1 hp2 a1 a2 hR z1 z2 hyy t1 t2 hmod hF (by omega) (by omega) (beq_iff_eq.2 (by omega)) (hdiv (by omega))
    | false =>
      rw [hu] at hR hmod hdiv hoff z1 z2
      simp only [cond_false] at hR hmod hdiv hoff z1 z2
      have hu' : ¬ (y - r < r ∨ (r = y - r ∧ q % 2 = 1)) := fun h => by rw [hup.2 h] at hu; cases hu
      have hF : ((putB (decide (n < 0)) (q * y) - n).natAbs : Int) = r := by rw [hoff]; omega
      by_cases c1 : r < y - r
      · exact halves_a n p y _ r w L hp1 hp2 a1 a2 hR z1 z2 hyy t1 t2 hmod hF (by omega) (by omega) (by omega)
      · exact halves_b n p y _ r w L hp1 hp2 a1 a2 hR z1 z2 hyy t1 t2 hmod hF (by omega) (by omega) (beq_iff_eq.2 (by omega)) (hdiv (by omega))
end Go.Proofs.YtmepocffafcibaaDoor
