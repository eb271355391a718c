/-
  NumRounds: Round OF THE REFERENCE, AND THE WALK OF THE LAW: it returns true at every two ints, in every world in which the tables lie; of what was there nothing is turned.
-/
import Derived.Test.YtmepocffafcibaaDoorLives
namespace Go.Proofs.YtmepocffafcibaaDoor
open Go.RowKit

theorem rsize_of (n s : Int) (w : World) (h : (n.natAbs : Int) = s) (hs : s ≤ 9223372036854775807) :
    Calls Tryd.prog 34 #[.int .i64 n] w fun e w' => e = .returned (.int .i64 s) ∧ w = w' := by
  rw [← h]; exact rsize_any n w (by omega) (by omega)

set_option maxHeartbeats 400000 in
theorem rround_neg (n p y N q r m P : Int) (w : World) (hn1 : -1000000000000000000 ≤ n) (hn2 : n ≤ 1000000000000000000) (hp1 : -12 ≤ p) (hp2 : p ≤ 6)
    (hy : tenP (6 - p).toNat = y) (hy1 : 1 ≤ y) (_hy2 : y ≤ 1000000000000000000)
    (hS : ∀ w, Calls Tryd.prog 34 #[.int .i64 n] w fun e w' => e = .returned (.int .i64 N) ∧ w = w')
    (hE : ∀ w, Calls Tryd.prog 33 #[.int .i64 q, .int .i64 r, .int .i64 y] w fun e w' => e = .returned (.int .i64 m) ∧ w = w')
    (hq : wrap64 (N.tdiv y) = q) (hr : N.tmod y = r) (hP : wrap64 (y * m) = P) (_hP0 : 0 ≤ P) (hP1 : P ≤ 1000000000000000000) (hneg : n < 0) :
    Calls Tryd.prog 15 #[.int .i64 n, .int .i64 p] w fun e w' => e = .returned (.tuple #[.int .i64 (-P), .int .i64 0]) ∧ ∃ k, w.drewN k = w' := by
  have HY := Lib.hid hy
  have HS := Lib.hid hS
  have HE := Lib.hid hE
  have hP2 : decide (1000000000000000000 < P) = false := decide_eq_false (by omega)
  clear hy hS hE
  go_enter Tryd.func15, Tryd.ntmps15
  go_wp2_with (go_at_call 23; refine (rfits_yes _ _ hn1 hn2).mono ?_; rintro e w' ⟨rfl, rfl⟩)
  go_loop [6, 7] (fun t i => ∃ k : Nat, p + (k : Int) ≤ 6 ∧ i = .int .i64 (p + (k : Int)) ∧ t = .int .i64 (tenP k)) (fun _ i => (6 - intOf i).toNat)
  case atStart => exact ⟨0, by omega, by rw [show p + ((0 : Nat) : Int) = p by omega], rfl⟩
  case round =>
    obtain ⟨k, hk, rfl, rfl⟩ := hrel
    by_cases hlt : p + (k : Int) < 6
    · have t1 := tenP_pos k
      have t3 := tenP_le (k + 1) (by omega)
      have t4 := Lib.hid (tenP_succ k)
      rw [tenP_succ] at t3
      go_wp2_with fail
      go_round
      case rel => exact ⟨k + 1, by omega, by rw [show p + ((k + 1 : Nat) : Int) = p + (k : Int) + 1 by omega], by rw [t4.out, Int.mul_comm]⟩
      case measure => simp [intOf]; omega
    · have ek : (6 - p).toNat = k := by omega
      have ey : tenP k = y := by rw [← HY.out, ek]
      clear ek
      rw [ey]
      clear ey
      go_wp2_with fail
      go_quiet (first | (go_at_call 34; exact quiet_eq (HS.out _)) | (go_at_call 33; exact quiet_eq (HE.out _)))
      go_wp2_with fail
      go_ret2
      exact ⟨rfl, _, rfl⟩

set_option maxHeartbeats 400000 in
theorem rround_pos (n p y N q r m P : Int) (w : World) (hn1 : -1000000000000000000 ≤ n) (hn2 : n ≤ 1000000000000000000) (hp1 : -12 ≤ p) (hp2 : p ≤ 6)
    (hy : tenP (6 - p).toNat = y) (hy1 : 1 ≤ y) (_hy2 : y ≤ 1000000000000000000)
    (hS : ∀ w, Calls Tryd.prog 34 #[.int .i64 n] w fun e w' => e = .returned (.int .i64 N) ∧ w = w')
    (hE : ∀ w, Calls Tryd.prog 33 #[.int .i64 q, .int .i64 r, .int .i64 y] w fun e w' => e = .returned (.int .i64 m) ∧ w = w')
    (hq : wrap64 (N.tdiv y) = q) (hr : N.tmod y = r) (hP : wrap64 (y * m) = P) (_hP0 : 0 ≤ P) (hP1 : P ≤ 1000000000000000000) (hneg : ¬ n < 0) :
    Calls Tryd.prog 15 #[.int .i64 n, .int .i64 p] w fun e w' => e = .returned (.tuple #[.int .i64 P, .int .i64 0]) ∧ ∃ k, w.drewN k = w' := by
  have HY := Lib.hid hy
  have HS := Lib.hid hS
  have HE := Lib.hid hE
  have hP2 : decide (1000000000000000000 < P) = false := decide_eq_false (by omega)
  have hn0 : decide (n < 0) = false := decide_eq_false hneg
  clear hy hS hE
  go_enter Tryd.func15, Tryd.ntmps15
  go_wp2_with (go_at_call 23; refine (rfits_yes _ _ hn1 hn2).mono ?_; rintro e w' ⟨rfl, rfl⟩)
  go_loop [6, 7] (fun t i => ∃ k : Nat, p + (k : Int) ≤ 6 ∧ i = .int .i64 (p + (k : Int)) ∧ t = .int .i64 (tenP k)) (fun _ i => (6 - intOf i).toNat)
  case atStart => exact ⟨0, by omega, by rw [show p + ((0 : Nat) : Int) = p by omega], rfl⟩
  case round =>
    obtain ⟨k, hk, rfl, rfl⟩ := hrel
    by_cases hlt : p + (k : Int) < 6
    · have t1 := tenP_pos k
      have t3 := tenP_le (k + 1) (by omega)
      have t4 := Lib.hid (tenP_succ k)
      rw [tenP_succ] at t3
      go_wp2_with fail
      go_round
      case rel => exact ⟨k + 1, by omega, by rw [show p + ((k + 1 : Nat) : Int) = p + (k : Int) + 1 by omega], by rw [t4.out, Int.mul_comm]⟩
      case measure => simp [intOf]; omega
    · have ek : (6 - p).toNat = k := by omega
      have ey : tenP k = y := by rw [← HY.out, ek]
      clear ek
      rw [ey]
      clear ey
      go_wp2_with fail
      go_quiet (first | (go_at_call 34; exact quiet_eq (HS.out _)) | (go_at_call 33; exact quiet_eq (HE.out _)))
      go_wp2_with fail
      go_ret2
      exact ⟨by rw [← hP]; rfl, _, rfl⟩

theorem tdiv_pos (N y : Int) (h0 : 0 ≤ N) (h1 : N ≤ 1000000000000000000) (hy : 1 ≤ y) : wrap64 (N.tdiv y) = N / y ∧ N.tmod y = N % y := by
  have a1 : N.tdiv y = N / y := Int.tdiv_eq_ediv_of_nonneg h0
  have a2 : 0 ≤ N / y := Int.ediv_nonneg h0 (by omega)
  have a3 : N / y ≤ N := Int.ediv_le_self _ h0
  exact ⟨by rw [a1]; exact IntWalk.wrap64_in _ ⟨by omega, by omega⟩, Int.tmod_eq_emod_of_nonneg h0⟩

theorem rround_any (n p : Int) (w : World) :
    Calls Tryd.prog 15 #[.int .i64 n, .int .i64 p] w fun e w' => e = .returned (.tuple #[.int .i64 (rouX n p), .int .i64 (rouE n p)]) ∧ ∃ k, w.drewN k = w' := by
  cases ha : fitsB n with
  | false =>
    have e1 : rouX n p = 0 := by unfold rouX rouOk; rw [ha]; rfl
    have e2 : rouE n p = 2 := by unfold rouE rouOk; rw [ha]; rfl
    rw [e1, e2]
    clear e1 e2
    go_enter Tryd.func15, Tryd.ntmps15
    go_wp2_with (go_at_call 23; refine (rfits_any _ _).mono ?_; rintro e w' ⟨rfl, rfl⟩)
    go_ret2
    exact ⟨rfl, 0, rfl⟩
  | true =>
    obtain ⟨a1, a2⟩ := fitsB_bounds ha
    by_cases h1 : -12 ≤ p
    · by_cases h2 : p ≤ 6
      · have e1 : rouX n p = putB (decide (n < 0)) (rouM n (tenP (6 - p).toNat) * tenP (6 - p).toNat) := by unfold rouX rouOk; rw [ha, decide_eq_true h1, decide_eq_true h2]; rfl
        have e2 : rouE n p = 0 := by unfold rouE rouOk; rw [ha, decide_eq_true h1, decide_eq_true h2]; rfl
        rw [e1, e2]
        have t1 := tenP_pos (6 - p).toNat
        have t2 := tenP_le (6 - p).toNat (by omega)
        obtain ⟨m0, m1, m2, m3⟩ := rouM_bounds n (6 - p).toNat (by omega) a1 a2
        obtain ⟨d1, d2⟩ := tdiv_pos (n.natAbs : Int) (tenP (6 - p).toNat) (by omega) (by omega) t1
        have hN0 : 0 ≤ (n.natAbs : Int) := by omega
        have hq0 : 0 ≤ (n.natAbs : Int) / tenP (6 - p).toNat := Int.ediv_nonneg hN0 (by omega)
        have hq1 : (n.natAbs : Int) / tenP (6 - p).toNat ≤ (n.natAbs : Int) := Int.ediv_le_self _ hN0
        have hr0 : 0 ≤ (n.natAbs : Int) % tenP (6 - p).toNat := Int.emod_nonneg _ (by omega)
        have hr1 : (n.natAbs : Int) % tenP (6 - p).toNat < tenP (6 - p).toNat := Int.emod_lt_of_pos _ (by omega)
        have hE := fun w => even_any ((n.natAbs : Int) / tenP (6 - p).toNat) ((n.natAbs : Int) % tenP (6 - p).toNat) (tenP (6 - p).toNat) w hq0 (by omega) hr0 hr1 t2
        have hP : wrap64 (tenP (6 - p).toNat * rouM n (tenP (6 - p).toNat)) = rouM n (tenP (6 - p).toNat) * tenP (6 - p).toNat := by
          rw [Int.mul_comm]; exact IntWalk.wrap64_in _ ⟨by omega, by omega⟩
        by_cases hneg : n < 0
        · rw [decide_eq_true hneg]
          exact rround_neg n p _ (n.natAbs : Int) _ _ _ _ w a1 a2 h1 h2 rfl t1 t2 (fun w => rsize_of n _ w rfl (by omega)) hE d1 d2 hP m0 m1 hneg
        · rw [decide_eq_false hneg]
          exact rround_pos n p _ (n.natAbs : Int) _ _ _ _ w a1 a2 h1 h2 rfl t1 t2 (fun w => rsize_of n _ w rfl (by omega)) hE d1 d2 hP m0 m1 hneg
      · have e1 : rouX n p = 0 := by unfold rouX rouOk; rw [ha, decide_eq_false h2]; simp
        have e2 : rouE n p = 2 := by unfold rouE rouOk; rw [ha, decide_eq_false h2]; simp
        rw [e1, e2]
        clear e1 e2
        have h1' : decide (p < -12) = false := decide_eq_false (by omega)
        go_enter Tryd.func15, Tryd.ntmps15
        go_wp2_with (go_at_call 23; refine (rfits_any _ _).mono ?_; rintro e w' ⟨rfl, rfl⟩)
        go_ret2
        exact ⟨rfl, 0, rfl⟩
    · have e1 : rouX n p = 0 := by unfold rouX rouOk; rw [ha, decide_eq_false h1]; rfl
      have e2 : rouE n p = 2 := by unfold rouE rouOk; rw [ha, decide_eq_false h1]; rfl
      rw [e1, e2]
      clear e1 e2
      go_enter Tryd.func15, Tryd.ntmps15
      go_wp2_with (go_at_call 23; refine (rfits_any _ _).mono ?_; rintro e w' ⟨rfl, rfl⟩)
      go_ret2
      exact ⟨rfl, 0, rfl⟩

set_option maxHeartbeats 400000 in
theorem rounds_any (n p : Int) (w : World) (L : LaidW w) :
    Calls Tryd.prog 5 #[.int .i64 n, .int .i64 p] w fun e w' => e = .returned (.bool true) ∧ Below w.heap.size w w' := by
  have HL := Lib.hid L
  clear L
  go_enter Tryd.func5, Tryd.ntmps5
  go_wp2_with fail
  refine (round_any n p _).mono ?_
  rintro e w1 ⟨rfl, h1⟩
  have B1 := Lib.hid h1
  clear h1
  go_wp2_with fail
  refine (rround_any n p _).mono ?_
  rintro e w2 ⟨rfl, k, rfl⟩
  have B2 := Lib.hid (below_drewN B1.out k)
  clear B1
  go_wp2_with fail
  refine (floor_any n _).mono ?_
  rintro e w3 ⟨rfl, rfl⟩
  go_wp2_with fail
  refine (rfloor_any n _).mono ?_
  rintro e w3 ⟨rfl, rfl⟩
  go_wp2_with fail
  refine (lives_any _ (HL.out.below B2.out)).mono ?_
  rintro e w4 ⟨rfl, h4⟩
  have B4 := Lib.hid (B2.out.trans (h4.mono B2.out.size))
  clear h4
  go_wp2_with fail
  go_ret
  exact ⟨rfl, B4.out⟩
end Go.Proofs.YtmepocffafcibaaDoor
