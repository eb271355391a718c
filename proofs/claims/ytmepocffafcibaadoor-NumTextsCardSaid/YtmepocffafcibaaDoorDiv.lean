/-
  bits.Div64: THE WALK of its text, both roads, out of the numbers that each step gives ('Knuth'); and the mathematics that pays them.
-/
import Derived.Test.YtmepocffafcibaaDoorOver
import Derived.Test.YtmepocffafcibaaDoorShelf
import Derived.Test.YtmepocffafcibaaDoorKnuth
import Derived.Deep.CutBlock
import Derived.Deep.CutRange
namespace Go.Proofs.YtmepocffafcibaaDoor
open Go.RowKit

theorem div64_lo (l y : Int) (hy0 : 0 < y) (hl0 : 0 ≤ l) (hl1 : l ≤ 18446744073709551615) : DivAt 0 l y (l / y) (l % y) := by
  intro w
  have e : IntKind.u64.wrap (l.tdiv y) = l / y := by
    have h1 : l.tdiv y = l / y := Int.tdiv_eq_ediv_of_nonneg hl0
    have h2 : 0 ≤ l / y := Int.ediv_nonneg hl0 (by omega)
    have h3 : l / y ≤ l := Int.ediv_le_self _ hl0
    rw [h1]
    show (l / y) % 18446744073709551616 = l / y
    omega
  go_enter Tryd.func47, Tryd.ntmps47
  go_wp2
  go_quiet (fail)
  go_wp2
  go_ret2
  exact ⟨rfl, _, rfl⟩

set_option maxHeartbeats 1000000 in
theorem div64_hi (h l y s Y v1 v0 U L u1 u0 q1 r1 Q1 R1 q2 r2 Q0 R0 : Int) (w : World) (hh : 1 ≤ h) (hy : h < y) (_hy1 : y ≤ 18446744073709551615) (_hl0 : 0 ≤ l) (_hl1 : l ≤ 18446744073709551615) (hs0 : 0 ≤ s) (hs1 : s ≤ 63)
    (hLZ : ∀ w, Calls Tryd.prog 68 #[.int .u64 y] w fun e w' => e = .returned (.int .i64 s) ∧ w = w')
    (hY : IntKind.u64.wrap (y * 2 ^ s.toNat) = Y) (_hY0 : 9223372036854775808 ≤ Y) (_hY1 : Y ≤ 18446744073709551615)
    (hv1 : Y / 4294967296 = v1) (hv10 : 2147483648 ≤ v1) (hv11 : v1 < 4294967296) (hv0 : bits BinOp.and IntKind.u64 Y 4294967295 = v0) (hv00 : 0 ≤ v0) (hv01 : v0 < 4294967296)
    (hU : bits BinOp.or IntKind.u64 (IntKind.u64.wrap (h * 2 ^ s.toNat)) (l / 2 ^ (64 - s).toNat) = U) (_hU0 : 0 ≤ U) (_hU1 : U ≤ 18446744073709551615)
    (hL : IntKind.u64.wrap (l * 2 ^ s.toNat) = L) (hLu1 : L / 4294967296 = u1) (hu10 : 0 ≤ u1) (hu11 : u1 < 4294967296) (hLu0 : bits BinOp.and IntKind.u64 L 4294967295 = u0) (hu00 : 0 ≤ u0) (hu01 : u0 < 4294967296)
    (hq1 : IntKind.u64.wrap (U.tdiv v1) = q1) (hr1 : IntKind.u64.wrap (U - IntKind.u64.wrap (q1 * v1)) = r1)
    (C1 : Knuth.Ctx Y v1 v0 U u1 Q1 R1) (I1 : Knuth.Inv v1 U Q1 q1 r1)
    (hR1 : IntKind.u64.wrap (IntKind.u64.wrap (IntKind.u64.wrap (U * 4294967296) + u1) - IntKind.u64.wrap (Q1 * Y)) = R1)
    (hq2 : IntKind.u64.wrap (R1.tdiv v1) = q2) (hr2 : IntKind.u64.wrap (R1 - IntKind.u64.wrap (q2 * v1)) = r2)
    (C2 : Knuth.Ctx Y v1 v0 R1 u0 Q0 R0) (I2 : Knuth.Inv v1 R1 Q0 q2 r2)
    (q r : Int) (hq : IntKind.u64.wrap (IntKind.u64.wrap (Q1 * 4294967296) + Q0) = q) (hr : IntKind.u64.wrap (IntKind.u64.wrap (IntKind.u64.wrap (R1 * 4294967296) + u0) - IntKind.u64.wrap (Q0 * Y)) / 2 ^ s.toNat = r) :
    Calls Tryd.prog 47 #[.int .u64 h, .int .u64 l, .int .u64 y] w fun e w' => e = .returned (.tuple #[.int .u64 q, .int .u64 r]) ∧ ∃ n, w.drewN n = w' := by
  have HLZ := Lib.hid hLZ
  have HQ := Lib.hid hq
  have HR := Lib.hid hr
  clear hLZ hq hr
  go_enter Tryd.func47, Tryd.ntmps47
  go_upto_block 0 with (go_at_call 68; refine (HLZ.out _).mono ?_; rintro e w' ⟨rfl, rfl⟩)
  go_cut [15, 16] from 67 to 85 (fun a _ wx => a = .int .u64 Q1 ∧ w = wx)
  case first =>
    go_wp2_with fail
    go_loop [15, 16] (fun a b => ∃ q r : Int, Knuth.Inv v1 U Q1 q r ∧ a = .int .u64 q ∧ b = .int .u64 r) (fun a _ => (intOf a).toNat)
    case atStart => exact ⟨_, _, I1, rfl, rfl⟩
    case round =>
      obtain ⟨q, r, I, rfl, rfl⟩ := hrel
      have hQ0 := C1.Q_ge
      have b1 : Q1 ≤ q := I.1
      have b2 : q ≤ 4294967297 := I.2.1
      have b3 : 0 ≤ r := I.2.2.1
      have b4 : r < 4294967296 := I.2.2.2.1
      by_cases hq : 4294967296 ≤ q
      · have hlow := Knuth.yes1 C1 hq
        by_cases hr : r + v1 < 4294967296
        · have I' := Knuth.step C1 I hlow hr
          go_wp2
          go_round
          case rel => exact ⟨_, _, I', rfl, rfl⟩
          case measure => simp [intOf]; omega
        · have I' := Knuth.last C1 I hlow (by omega)
          go_wp2
          go_meet
          exact ⟨rfl, rfl⟩
      · have hm := Knuth.mul_le (v0 := v0) (by omega) (by omega : q < 4294967296) hv00 hv01
        have hm0 := hm.1
        have hm1 := hm.2
        clear hm
        by_cases ht : 4294967296 * r + u1 < q * v0
        · have hlow := Knuth.yes2 C1 I ht
          by_cases hr : r + v1 < 4294967296
          · have I' := Knuth.step C1 I hlow hr
            go_wp2
            go_round
            case rel => exact ⟨_, _, I', rfl, rfl⟩
            case measure => simp [intOf]; omega
          · have I' := Knuth.last C1 I hlow (by omega)
            go_wp2
            go_meet
            exact ⟨rfl, rfl⟩
        · have I' := Knuth.no C1 I (by omega)
          have ht' : decide (4294967296 * r + u1 < q * v0) = false := decide_eq_false ht
          have HI' := Lib.hid I'
          clear I'
          go_wp2
          go_meet
          exact ⟨by rw [HI'.out], rfl⟩
  case rest =>
    obtain ⟨rfl, rfl⟩ := hcut
    go_upto_block 2 with fail
    go_cut [16, 18] from 102 to 120 (fun _ a wx => a = .int .u64 Q0 ∧ w = wx)
    case first =>
      go_wp2_with fail
      go_loop [16, 18] (fun b a => ∃ q r : Int, Knuth.Inv v1 R1 Q0 q r ∧ a = .int .u64 q ∧ b = .int .u64 r) (fun _ a => (intOf a).toNat)
      case atStart => exact ⟨_, _, I2, rfl, rfl⟩
      case round =>
        obtain ⟨q, r, I, rfl, rfl⟩ := hrel
        have hQ0 := C2.Q_ge
        have b1 : Q0 ≤ q := I.1
        have b2 : q ≤ 4294967297 := I.2.1
        have b3 : 0 ≤ r := I.2.2.1
        have b4 : r < 4294967296 := I.2.2.2.1
        by_cases hq : 4294967296 ≤ q
        · have hlow := Knuth.yes1 C2 hq
          by_cases hr : r + v1 < 4294967296
          · have I' := Knuth.step C2 I hlow hr
            go_wp2
            go_round
            case rel => exact ⟨_, _, I', rfl, rfl⟩
            case measure => simp [intOf]; omega
          · have I' := Knuth.last C2 I hlow (by omega)
            go_wp2
            go_meet
            exact ⟨rfl, rfl⟩
        · have hm := Knuth.mul_le (v0 := v0) (by omega) (by omega : q < 4294967296) hv00 hv01
          have hm0 := hm.1
          have hm1 := hm.2
          clear hm
          by_cases ht : 4294967296 * r + u0 < q * v0
          · have hlow := Knuth.yes2 C2 I ht
            by_cases hr : r + v1 < 4294967296
            · have I' := Knuth.step C2 I hlow hr
              go_wp2
              go_round
              case rel => exact ⟨_, _, I', rfl, rfl⟩
              case measure => simp [intOf]; omega
            · have I' := Knuth.last C2 I hlow (by omega)
              go_wp2
              go_meet
              exact ⟨rfl, rfl⟩
          · have I' := Knuth.no C2 I (by omega)
            have ht' : decide (4294967296 * r + u0 < q * v0) = false := decide_eq_false ht
            have HI' := Lib.hid I'
            clear I'
            go_wp2
            go_meet
            exact ⟨by rw [HI'.out], rfl⟩
    case rest =>
      obtain ⟨rfl, rfl⟩ := hcut
      go_wp2
      go_ret2
      exact ⟨by rw [← HQ.out, ← HR.out]; rfl, 0, rfl⟩

theorem wrap_u64 (n : Int) : IntKind.u64.wrap n = n % 18446744073709551616 := rfl
theorem and_low (Y : Int) (h0 : 0 ≤ Y) (h1 : Y ≤ 18446744073709551615) : bits BinOp.and IntKind.u64 Y 4294967295 = Y % 4294967296 := by
  have h := bits_and_u64_nat Y.toNat 4294967295 (by omega) (by omega)
  have e : Y.toNat &&& 4294967295 = Y.toNat % 4294967296 := Nat.and_two_pow_sub_one_eq_mod Y.toNat 32
  rw [e, Int.toNat_of_nonneg h0] at h
  have h2 : ((Y.toNat % 4294967296 : Nat) : Int) = Y % 4294967296 := by omega
  exact h.trans h2
theorem or_add (a b : Int) (s : Nat) (ha : 0 ≤ a) (hb : 0 ≤ b) (hb1 : b < 2 ^ s) (h1 : a * 2 ^ s ≤ 18446744073709551615) (h2 : b ≤ 18446744073709551615) : bits BinOp.or IntKind.u64 (a * 2 ^ s) b = a * 2 ^ s + b := by
  obtain ⟨m, rfl⟩ := Int.eq_ofNat_of_zero_le ha
  obtain ⟨k, rfl⟩ := Int.eq_ofNat_of_zero_le hb
  have e : ((m : Int) * 2 ^ s) = ((2 ^ s * m : Nat) : Int) := by rw [Int.natCast_mul, Int.natCast_pow, Int.mul_comm]; rfl
  have hk : k < 2 ^ s := by
    have : ((k : Nat) : Int) < ((2 ^ s : Nat) : Int) := by rw [Int.natCast_pow]; exact hb1
    omega
  rw [e] at h1 ⊢
  have h := bits_or_u64_nat (2 ^ s * m) k (by omega) (by omega)
  rw [← Nat.two_pow_add_eq_or_of_lt hk] at h
  rw [← Int.natCast_add]
  exact h

/-- The mathematics of the whole: everything that 'div64_hi' asks, out of a shift by P that fills the upper half. -/
theorem div64_math (h l y P D : Int) (hh : 1 ≤ h) (hy : h < y) (hl0 : 0 ≤ l) (hl1 : l ≤ 18446744073709551615) (hP : 1 ≤ P) (hD : 1 ≤ D) (hPD : P * D = 18446744073709551616) :
    0 ≤ h * P ∧ h * P + P ≤ y * P ∧ 0 ≤ l / D ∧ l / D < P ∧ (h * P + l / D) * 18446744073709551616 + (l * P) % 18446744073709551616 = (h * 18446744073709551616 + l) * P := by
  have a1 : 0 ≤ h * P := Int.mul_nonneg (by omega) (by omega)
  have a2 : (h + 1) * P ≤ y * P := Int.mul_le_mul_of_nonneg_right (by omega) (by omega)
  rw [Int.add_mul, Int.one_mul] at a2
  have a3 : 0 ≤ l / D := Int.ediv_nonneg hl0 (by omega)
  have a4 : l / D < P := Int.ediv_lt_of_lt_mul (by omega) (by omega)
  have a5 : l * P / 18446744073709551616 = l / D := by
    rw [← hPD, Int.mul_comm l P]
    exact Int.mul_ediv_mul_of_pos _ _ (by omega)
  have a6 : (h * P + l / D) * 18446744073709551616 = h * P * 18446744073709551616 + l / D * 18446744073709551616 := Int.add_mul _ _ _
  have a7 : (h * 18446744073709551616 + l) * P = h * P * 18446744073709551616 + l * P := by
    rw [Int.add_mul, Int.mul_assoc, Int.mul_comm 18446744073709551616 P, ← Int.mul_assoc]
  refine ⟨a1, a2, a3, a4, ?_⟩
  omega
end Go.Proofs.YtmepocffafcibaaDoor
