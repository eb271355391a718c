/-
  Round OF num AND OF THE REFERENCE: what each call returns, at any two ints; of what was there when the call began nothing is turned.
-/
import Derived.Test.YtmepocffafcibaaDoorMulDiv
namespace Go.Proofs.YtmepocffafcibaaDoor
open Go.RowKit

/-- Ten to the k. -/
def tenP (k : Nat) : Int := 10 ^ k
theorem tenP_succ (k : Nat) : tenP (k + 1) = tenP k * 10 := Int.pow_succ 10 k
theorem tenP_pos (k : Nat) : 1 ≤ tenP k := by
  induction k with
  | zero => decide
  | succ k ih => rw [tenP_succ]; omega
theorem tenP_split (k : Nat) (h : k ≤ 18) : tenP (18 - k) * tenP k = 1000000000000000000 := by
  unfold tenP; rw [← Int.pow_add, show 18 - k + k = 18 from by omega]; rfl
theorem tenP_le (k : Nat) (h : k ≤ 18) : tenP k ≤ 1000000000000000000 := by
  have h1 := tenP_split k h
  have h2 := tenP_pos (18 - k)
  have h3 := tenP_pos k
  have h4 : 1 * tenP k ≤ tenP (18 - k) * tenP k := Int.mul_le_mul_of_nonneg_right h2 (by omega)
  omega

/-- A size rounded to a multiple of y is no greater than a bound that is one. -/
theorem rnd_mul_le (N y K : Int) (hN : 0 ≤ N) (hy : 1 ≤ y) (hK : N ≤ K * y) : 0 ≤ rndI (N / y) (N % y) y * y ∧ rndI (N / y) (N % y) y * y ≤ K * y ∧ 0 ≤ rndI (N / y) (N % y) y := by
  have hq0 : 0 ≤ N / y := Int.ediv_nonneg hN (by omega)
  have hr0 : 0 ≤ N % y := Int.emod_nonneg _ (by omega)
  have hr1 : N % y < y := Int.emod_lt_of_pos _ (by omega)
  have hd : N / y * y + N % y = N := by rw [Int.mul_comm]; exact Int.mul_ediv_add_emod N y
  have hqy : 0 ≤ N / y * y := Int.mul_nonneg hq0 (by omega)
  unfold rndI
  cases hu : upB (N / y) (N % y) y with
  | false => simp only [cond_false]; exact ⟨hqy, by omega, hq0⟩
  | true =>
    simp only [cond_true]
    have hr : 1 ≤ N % y := by
      unfold upB at hu
      rw [Bool.or_eq_true, Bool.and_eq_true, decide_eq_true_iff, decide_eq_true_iff] at hu
      omega
    have h1 : N / y * y < K * y := by omega
    have h2 := Int.lt_of_mul_lt_mul_right h1 (by omega)
    have h3 : (N / y + 1) * y ≤ K * y := Int.mul_le_mul_of_nonneg_right (by omega) (by omega)
    exact ⟨Int.mul_nonneg (by omega) (by omega), h3, by omega⟩

/-- What Round tells. -/
def rouOk (n p : Int) : Bool := fitsB n && (decide (-12 ≤ p) && decide (p ≤ 6))
def rouM (n y : Int) : Int := rndI ((n.natAbs : Int) / y) ((n.natAbs : Int) % y) y
def rouX (n p : Int) : Int := bif rouOk n p then putB (decide (n < 0)) (rouM n (tenP (6 - p).toNat) * tenP (6 - p).toNat) else 0
def rouE (n p : Int) : Int := bif rouOk n p then 0 else 2

theorem rouM_bounds (n : Int) (k : Nat) (hk : k ≤ 18) (h1 : -1000000000000000000 ≤ n) (h2 : n ≤ 1000000000000000000) :
    0 ≤ rouM n (tenP k) * tenP k ∧ rouM n (tenP k) * tenP k ≤ 1000000000000000000 ∧ 0 ≤ rouM n (tenP k) ∧ rouM n (tenP k) ≤ 1000000000000000000 := by
  have hs := tenP_split k hk
  have hp := tenP_pos k
  obtain ⟨a, b, c⟩ := rnd_mul_le (n.natAbs : Int) (tenP k) (tenP (18 - k)) (by omega) hp (by omega)
  rw [hs] at b
  refine ⟨a, b, c, ?_⟩
  have h3 : rouM n (tenP k) * 1 ≤ rouM n (tenP k) * tenP k := Int.mul_le_mul_of_nonneg_left hp c
  have h4 : rouM n (tenP k) * tenP k ≤ 1000000000000000000 := b
  omega

theorem even_any (q r y : Int) (w : World) (hq0 : 0 ≤ q) (hq : q ≤ 1000000000000000000) (hr0 : 0 ≤ r) (hr : r < y) (hy : y ≤ 1000000000000000000) :
    Calls Tryd.prog 33 #[.int .i64 q, .int .i64 r, .int .i64 y] w fun e w' => e = .returned (.int .i64 (rndI q r y)) ∧ w = w' := by
  by_cases c1 : y - r < r
  · have hu : rndI q r y = q + 1 := by unfold rndI upB; rw [decide_eq_true c1]; rfl
    rw [hu]
    go_enter Tryd.func33, Tryd.ntmps33
    go_wp2
    go_ret
    exact ⟨rfl, rfl⟩
  · have c1' : decide (y - r < r) = false := decide_eq_false c1
    by_cases c2 : r = y - r
    · have c2' : (r == y - r) = true := beq_iff_eq.2 c2
      by_cases c3 : q % 2 = 1
      · have hu : rndI q r y = q + 1 := by unfold rndI upB; rw [decide_eq_true c2, decide_eq_true c3]; simp
        rw [hu]
        clear c2
        go_enter Tryd.func33, Tryd.ntmps33
        go_wp2
        go_ret
        exact ⟨rfl, rfl⟩
      · have hu : rndI q r y = q := by unfold rndI upB; rw [decide_eq_false c1, decide_eq_false c3]; simp
        have c3' : q % 2 = 0 := by omega
        rw [hu]
        clear c2
        go_enter Tryd.func33, Tryd.ntmps33
        go_wp2
        go_ret
        exact ⟨rfl, rfl⟩
    · have c2' : (r == y - r) = false := beq_eq_false_iff_ne.2 c2
      have hu : rndI q r y = q := by unfold rndI upB; rw [decide_eq_false c1, decide_eq_false c2]; simp
      rw [hu]
      go_enter Tryd.func33, Tryd.ntmps33
      go_wp2
      go_ret
      exact ⟨rfl, rfl⟩

/-- 'over' where the higher word is 0 and all fits. -/
theorem over_low (l y : Int) (w : World) (hl0 : 0 ≤ l) (hl1 : l ≤ 1000000000000000000) (hy0 : 1 ≤ y) (hy1 : y ≤ 1000000000000000000) (hm : rndI (l / y) (l % y) y ≤ 1000000000000000000) :
    Calls Tryd.prog 30 #[.agg #[.int .u64 0, .int .u64 l], .int .u64 y] w fun e w' => e = .returned (.tuple #[.int .i64 (rndI (l / y) (l % y) y), .bool true]) ∧ Below w.heap.size w w' := by
  have h := over_all 0 l y w (by omega) hl0 (by omega) hy0 (by omega)
  rw [Int.zero_mul, Int.zero_add] at h
  have hq : l / y ≤ l := Int.ediv_le_self _ hl0
  have e1 : ovX (l / y) (l % y) y = rndI (l / y) (l % y) y := by unfold ovX; rw [decide_eq_true (by omega)]; rfl
  have e2 : ovB (l / y) (l % y) y = true := decide_eq_true hm
  rw [e1, e2] at h
  exact h

theorem told_fits (n : Int) (w : World) (h1 : -1000000000000000000 ≤ n) (h2 : n ≤ 1000000000000000000) :
    Calls Tryd.prog 31 #[.int .i64 n] w fun e w' => e = .returned (.tuple #[.int .i64 n, .int .i64 0]) ∧ w = w' := by
  have h := told_any n w
  have e1 : toldX n = n := by unfold toldX; rw [fitsB_yes h1 h2]; rfl
  have e2 : toldE n = 0 := by unfold toldE; rw [fitsB_yes h1 h2]; rfl
  rw [e1, e2] at h
  exact h
theorem cell_box1 (w w2 : World) (m : Bool) (h2 : Below (w.alloc (.cells #[.bool m] 4)).heap.size (w.alloc (.cells #[.bool m] 4)) w2) : w2.cell? ⟨w.heap.size, 0, none⟩ = some (.bool m) := cell_box w w2 w2 m h2 (Below.refl _ _)
theorem below_box1 (w w2 : World) (o : Obj) (h2 : Below (w.alloc o).heap.size (w.alloc o) w2) : Below w.heap.size w w2 := below_box2 w w2 w2 o h2 (Below.refl _ _)

set_option maxHeartbeats 400000 in
theorem round_core (n p y m Z : Int) (w : World) (hn1 : -1000000000000000000 ≤ n) (hn2 : n ≤ 1000000000000000000) (hp1 : -12 ≤ p) (hp2 : p ≤ 6)
    (hy : tenP (6 - p).toNat = y) (hy1 : 1 ≤ y) (hy2 : y ≤ 1000000000000000000) (hm0 : 0 ≤ m) (hm1 : m ≤ 1000000000000000000)
    (hO : ∀ w, Calls Tryd.prog 30 #[.agg #[.int .u64 0, .int .u64 (n.natAbs : Int)], .int .u64 y] w fun e w' => e = .returned (.tuple #[.int .i64 m, .bool true]) ∧ Below w.heap.size w w')
    (hZ : putB (minusB n y) m * y = Z) (hZ1 : -1000000000000000000 ≤ Z) (hZ2 : Z ≤ 1000000000000000000) :
    Calls Tryd.prog 10 #[.int .i64 n, .int .i64 p] w fun e w' => e = .returned (.tuple #[.int .i64 Z, .int .i64 0]) ∧ Below w.heap.size w w' := by
  have HY := Lib.hid hy
  have HO := Lib.hid hO
  clear hy hO
  go_enter Tryd.func10, Tryd.ntmps10
  go_wp2_with (go_at_call 22; refine (fits_yes _ _ hn1 hn2).mono ?_; rintro e w' ⟨rfl, rfl⟩)
  go_loop [6, 25] (fun t i => ∃ k : Nat, (k : Int) ≤ 6 - p ∧ i = .int .i64 k ∧ t = .int .i64 (tenP k)) (fun _ i => (6 - p - intOf i).toNat)
  case atStart => exact ⟨0, by omega, rfl, rfl⟩
  case round =>
    obtain ⟨k, hk, rfl, rfl⟩ := hrel
    by_cases hlt : (k : Int) < 6 - p
    · have t1 := tenP_pos k
      have t3 := tenP_le (k + 1) (by omega)
      have t4 := Lib.hid (tenP_succ k)
      rw [tenP_succ] at t3
      go_wp2_with fail
      go_round
      case rel => exact ⟨k + 1, by omega, by go_num, by rw [t4.out]⟩
      case measure => simp [intOf]; omega
    · have ek : (6 - p).toNat = k := by omega
      have ey : tenP k = y := by rw [← HY.out, ek]
      clear ek
      rw [ey]
      clear ey
      go_wp2_with fail
      refine (bare_any n y w (by omega) (by omega) (by omega) (by omega)).mono ?_
      rintro e w1 ⟨rfl, rfl⟩
      unfold signF
      have e1 : (y.natAbs : Int) = y := by omega
      go_wp2_with fail
      refine (HO.out _).mono ?_
      rintro e w2 ⟨rfl, hw2⟩
      have hcell := Lib.hid (cell_box1 w w2 _ hw2)
      have hbel := Lib.hid (below_box1 w w2 _ hw2)
      clear hw2
      go_wp2_with fail
      refine (sign_any (minusB n y) m w.heap.size w2 (by omega) (by omega) hcell.out).mono ?_
      rintro e w4 ⟨rfl, rfl⟩
      go_wp2_with fail
      refine (told_fits Z _ hZ1 hZ2).mono ?_
      rintro e w5 ⟨rfl, rfl⟩
      go_wp2_with fail
      go_ret2
      exact ⟨rfl, hbel.out⟩

theorem putB_mul (n y m : Int) (hy : 1 ≤ y) : putB (minusB n y) m * y = putB (decide (n < 0)) (m * y) := by
  unfold minusB
  rw [decide_eq_false (show ¬ y < 0 by omega)]
  cases decide (n < 0) with
  | false => rfl
  | true => exact Int.neg_mul m y
theorem putB_bounds (b : Bool) (x K : Int) (h0 : 0 ≤ x) (h1 : x ≤ K) : -K ≤ putB b x ∧ putB b x ≤ K := by
  cases b <;> simp only [putB, cond_true, cond_false] <;> omega

theorem round_any (n p : Int) (w : World) :
    Calls Tryd.prog 10 #[.int .i64 n, .int .i64 p] w fun e w' => e = .returned (.tuple #[.int .i64 (rouX n p), .int .i64 (rouE n p)]) ∧ Below w.heap.size w w' := by
  cases ha : fitsB n with
  | false =>
    have e1 : rouX n p = 0 := by unfold rouX rouOk; rw [ha]; rfl
    have e2 : rouE n p = 2 := by unfold rouE rouOk; rw [ha]; rfl
    rw [e1, e2]
    clear e1 e2
    go_enter Tryd.func10, Tryd.ntmps10
    go_wp2_with (go_at_call 22; refine (fits_any _ _).mono ?_; rintro e w' ⟨rfl, rfl⟩)
    go_ret2
    exact ⟨rfl, Below.refl _ _⟩
  | true =>
    obtain ⟨a1, a2⟩ := fitsB_bounds ha
    by_cases h1 : -12 ≤ p
    · by_cases h2 : p ≤ 6
      · have e1 : rouX n p = putB (decide (n < 0)) (rouM n (tenP (6 - p).toNat) * tenP (6 - p).toNat) := by unfold rouX rouOk; rw [ha, decide_eq_true h1, decide_eq_true h2]; rfl
        have e2 : rouE n p = 0 := by unfold rouE rouOk; rw [ha, decide_eq_true h1, decide_eq_true h2]; rfl
        rw [e1, e2]
        have t1 := tenP_pos (6 - p).toNat
        have t2 := tenP_le (6 - p).toNat (by omega)
        obtain ⟨m0, m1, m2, m3⟩ := rouM_bounds n (6 - p).toNat (by omega) a1 a2
        obtain ⟨z1, z2⟩ := putB_bounds (decide (n < 0)) _ _ m0 m1
        exact round_core n p _ _ _ w a1 a2 h1 h2 rfl t1 t2 m2 m3 (fun w => over_low (n.natAbs : Int) _ w (by omega) (by omega) t1 t2 m3) (putB_mul n _ _ t1) z1 z2
      · have e1 : rouX n p = 0 := by unfold rouX rouOk; rw [ha, decide_eq_false h2]; simp
        have e2 : rouE n p = 2 := by unfold rouE rouOk; rw [ha, decide_eq_false h2]; simp
        rw [e1, e2]
        clear e1 e2
        have h1' : decide (p < -12) = false := decide_eq_false (by omega)
        go_enter Tryd.func10, Tryd.ntmps10
        go_wp2_with (go_at_call 22; refine (fits_any _ _).mono ?_; rintro e w' ⟨rfl, rfl⟩)
        go_ret2
        exact ⟨rfl, Below.refl _ _⟩
    · have e1 : rouX n p = 0 := by unfold rouX rouOk; rw [ha, decide_eq_false h1]; rfl
      have e2 : rouE n p = 2 := by unfold rouE rouOk; rw [ha, decide_eq_false h1]; rfl
      rw [e1, e2]
      clear e1 e2
      go_enter Tryd.func10, Tryd.ntmps10
      go_wp2_with (go_at_call 22; refine (fits_any _ _).mono ?_; rintro e w' ⟨rfl, rfl⟩)
      go_ret2
      exact ⟨rfl, Below.refl _ _⟩
end Go.Proofs.YtmepocffafcibaaDoor
