/-
  bits.Div64 AT EVERY ARGUMENT IT TAKES: below its divisor, the quotient and what is left of the two words; the world is as it was but for draws.
-/
import Derived.Test.YtmepocffafcibaaDoorDiv
import Derived.Lib.ItoaNum
namespace Go.Proofs.YtmepocffafcibaaDoor
open Go.RowKit

theorem lead_any (y : Int) (h0 : 1 ≤ y) (h1 : y ≤ 18446744073709551615) :
    ∃ s : Nat, s ≤ 63 ∧ (∀ w, Calls Tryd.prog 68 #[.int .u64 y] w fun e w' => e = .returned (.int .i64 (s : Int)) ∧ w = w') ∧ 9223372036854775808 ≤ y * 2 ^ s ∧ y * 2 ^ s ≤ 18446744073709551615 := by
  obtain ⟨k, rfl⟩ := Int.eq_ofNat_of_zero_le (by omega : 0 ≤ y)
  obtain ⟨b1, b2, b3⟩ := Lib.bitLenAux_bounds 64 k (by omega) (by omega)
  have b4 : Lib.bitLen k ≤ 64 := Lib.bitLen_le k 64 (by omega) (by omega)
  have b1 : 1 ≤ Lib.bitLen k := b1
  have b2 : 2 ^ (Lib.bitLen k - 1) ≤ k := b2
  have b3 : k < 2 ^ Lib.bitLen k := b3
  refine ⟨64 - Lib.bitLen k, by omega, fun w => ?_, ?_, ?_⟩
  · have c := Tryd.bits_LeadingZeros64 (k : Int) w (by omega) h1
    rw [Int.toNat_natCast] at c
    have e : (64 - (Lib.bitLen k : Int)) = ((64 - Lib.bitLen k : Nat) : Int) := by omega
    rw [e] at c
    exact c.mono fun _ _ ⟨h, g⟩ => ⟨h, g.symm⟩
  · have h : 2 ^ (Lib.bitLen k - 1) * 2 ^ (64 - Lib.bitLen k) ≤ k * 2 ^ (64 - Lib.bitLen k) := Nat.mul_le_mul_right _ b2
    rw [← Nat.pow_add, show Lib.bitLen k - 1 + (64 - Lib.bitLen k) = 63 from by omega] at h
    have e : ((k : Int) * 2 ^ (64 - Lib.bitLen k)) = ((k * 2 ^ (64 - Lib.bitLen k) : Nat) : Int) := by rw [Int.natCast_mul, Int.natCast_pow]; rfl
    rw [e]
    omega
  · have h : k * 2 ^ (64 - Lib.bitLen k) < 2 ^ Lib.bitLen k * 2 ^ (64 - Lib.bitLen k) := Nat.mul_lt_mul_of_pos_right b3 (Nat.two_pow_pos _)
    rw [← Nat.pow_add, show Lib.bitLen k + (64 - Lib.bitLen k) = 64 from by omega] at h
    have e : ((k : Int) * 2 ^ (64 - Lib.bitLen k)) = ((k * 2 ^ (64 - Lib.bitLen k) : Nat) : Int) := by rw [Int.natCast_mul, Int.natCast_pow]; rfl
    rw [e]
    omega

theorem wrap_tdiv (a b : Int) (ha : 0 ≤ a) (ha1 : a ≤ 18446744073709551615) (hb : 1 ≤ b) : IntKind.u64.wrap (a.tdiv b) = a / b := by
  have h1 : a.tdiv b = a / b := Int.tdiv_eq_ediv_of_nonneg ha
  have h2 : 0 ≤ a / b := Int.ediv_nonneg ha (by omega)
  have h3 : a / b ≤ a := Int.ediv_le_self _ ha
  rw [h1, wrap_u64]; omega
theorem wrap_mod (a b : Int) (ha : 0 ≤ a) (ha1 : a ≤ 18446744073709551615) (hb : 1 ≤ b) : IntKind.u64.wrap (a - IntKind.u64.wrap (a / b * b)) = a % b := by
  have hd : a / b * b + a % b = a := by rw [Int.mul_comm]; exact Int.mul_ediv_add_emod a b
  have hr0 : 0 ≤ a % b := Int.emod_nonneg _ (by omega)
  have hr1 : 0 ≤ a / b * b := Int.mul_nonneg (Int.ediv_nonneg ha (by omega)) (by omega)
  rw [wrap_u64, wrap_u64]; omega
theorem wrap_rest (U u Q Y R : Int) (h : Q * Y + R = U * 4294967296 + u) (h0 : 0 ≤ R) (h1 : R ≤ 18446744073709551615) :
    IntKind.u64.wrap (IntKind.u64.wrap (IntKind.u64.wrap (U * 4294967296) + u) - IntKind.u64.wrap (Q * Y)) = R := by
  simp only [wrap_u64]; omega
theorem ctx_of (Y U u : Int) (hY0 : 9223372036854775808 ≤ Y) (hY1 : Y ≤ 18446744073709551615) (hU0 : 0 ≤ U) (hU1 : U < Y) (hu0 : 0 ≤ u) (hu1 : u < 4294967296) :
    Knuth.Ctx Y (Y / 4294967296) (Y % 4294967296) U u ((U * 4294967296 + u) / Y) ((U * 4294967296 + u) % Y) :=
  ⟨by omega, by omega, by omega, by omega, by omega, hU0, hU1, hu0, hu1, by rw [Int.mul_comm]; exact Int.mul_ediv_add_emod _ Y, Int.emod_nonneg _ (by omega), Int.emod_lt_of_pos _ (by omega)⟩

theorem div64_any (h l y : Int) (hh : 0 ≤ h) (hy : h < y) (hy1 : y ≤ 18446744073709551615) (hl0 : 0 ≤ l) (hl1 : l ≤ 18446744073709551615) :
    DivAt h l y ((h * 18446744073709551616 + l) / y) ((h * 18446744073709551616 + l) % y) := by
  by_cases hz : h = 0
  · subst hz
    rw [Int.zero_mul, Int.zero_add]
    exact div64_lo l y (by omega) hl0 hl1
  intro w
  obtain ⟨s, hs, hLZ, hY0, hY1⟩ := lead_any y (by omega) hy1
  have hP : (1 : Int) ≤ 2 ^ s := by
    have := Nat.two_pow_pos s
    have e : ((2 : Int) ^ s) = ((2 ^ s : Nat) : Int) := by rw [Int.natCast_pow]; rfl
    omega
  have hD : (1 : Int) ≤ 2 ^ (64 - s) := by
    have := Nat.two_pow_pos (64 - s)
    have e : ((2 : Int) ^ (64 - s)) = ((2 ^ (64 - s) : Nat) : Int) := by rw [Int.natCast_pow]; rfl
    omega
  have hPD : (2 : Int) ^ s * 2 ^ (64 - s) = 18446744073709551616 := by
    rw [← Int.pow_add, show s + (64 - s) = 64 from by omega]; rfl
  obtain ⟨m1, m2, m3, m4, m5⟩ := div64_math h l y (2 ^ s) (2 ^ (64 - s)) (by omega) hy hl0 hl1 hP hD hPD
  have es : ((s : Int)).toNat = s := Int.toNat_natCast s
  have ed : (64 - (s : Int)).toNat = 64 - s := by omega
  obtain ⟨Y, eY⟩ : ∃ Y, y * 2 ^ s = Y := ⟨_, rfl⟩
  obtain ⟨U, eU⟩ : ∃ U, h * 2 ^ s + l / 2 ^ (64 - s) = U := ⟨_, rfl⟩
  obtain ⟨L, eL⟩ : ∃ L, (l * 2 ^ s) % 18446744073709551616 = L := ⟨_, rfl⟩
  have hdl : l / 2 ^ (64 - s) ≤ l := Int.ediv_le_self _ hl0
  have hor := or_add h (l / 2 ^ (64 - s)) s hh m3 m4 (by omega) (by omega)
  rw [eY] at hY0 hY1 m2
  rw [eU, eL] at m5
  have hL0 : 0 ≤ L ∧ L < 18446744073709551616 := by omega
  have hU0 : 0 ≤ U ∧ U < Y := by omega
  have C1 := ctx_of Y U (L / 4294967296) hY0 hY1 hU0.1 hU0.2 (by omega) (by omega)
  obtain ⟨Q1, eQ1⟩ : ∃ Q, (U * 4294967296 + L / 4294967296) / Y = Q := ⟨_, rfl⟩
  obtain ⟨R1, eR1⟩ : ∃ R, (U * 4294967296 + L / 4294967296) % Y = R := ⟨_, rfl⟩
  rw [eQ1, eR1] at C1
  have C2 := ctx_of Y R1 (L % 4294967296) hY0 hY1 C1.R0 C1.R1 (by omega) (by omega)
  obtain ⟨Q0, eQ0⟩ : ∃ Q, (R1 * 4294967296 + L % 4294967296) / Y = Q := ⟨_, rfl⟩
  obtain ⟨R0, eR0⟩ : ∃ R, (R1 * 4294967296 + L % 4294967296) % Y = R := ⟨_, rfl⟩
  rw [eQ0, eR0] at C2
  have k1 := C1.Q_ge; have k2 := C1.Q_lt; have k3 := C2.Q_ge; have k4 := C2.Q_lt
  have k5 := C1.hQ; have k6 := C2.hQ; have k7 := C1.R0; have k8 := C1.R1; have k9 := C2.R0; have k10 := C2.R1
  -- the whole quotient, and what is left
  have hN : (h * 18446744073709551616 + l) * 2 ^ s = (Q1 * 4294967296 + Q0) * Y + R0 := by
    rw [← m5, Int.add_mul, Int.mul_assoc, Int.mul_comm 4294967296 Y, ← Int.mul_assoc]; omega
  obtain ⟨N, eN⟩ : ∃ N, h * 18446744073709551616 + l = N := ⟨_, rfl⟩
  rw [eN] at hN ⊢
  have hR : R0 = (N - (Q1 * 4294967296 + Q0) * y) * 2 ^ s := by
    rw [Int.sub_mul, Int.mul_assoc, eY]; omega
  have hr0 : 0 ≤ N - (Q1 * 4294967296 + Q0) * y := by
    have : (-1) * 2 ^ s < (N - (Q1 * 4294967296 + Q0) * y) * 2 ^ s := by omega
    have := Int.lt_of_mul_lt_mul_right this (by omega)
    omega
  have hr1 : N - (Q1 * 4294967296 + Q0) * y < y := by
    have : (N - (Q1 * 4294967296 + Q0) * y) * 2 ^ s < y * 2 ^ s := by omega
    exact Int.lt_of_mul_lt_mul_right this (by omega)
  have hq : N / y = Q1 * 4294967296 + Q0 ∧ N % y = N - (Q1 * 4294967296 + Q0) * y := by
    have e : N = (N - (Q1 * 4294967296 + Q0) * y) + (Q1 * 4294967296 + Q0) * y := by omega
    constructor
    · conv => lhs; rw [e]
      rw [Int.add_mul_ediv_right _ _ (by omega), Int.ediv_eq_zero_of_lt hr0 hr1]; omega
    · conv => lhs; rw [e]
      rw [Int.add_mul_emod_self_right, Int.emod_eq_of_lt hr0 hr1]
  rw [hq.1, hq.2]
  refine div64_hi h l y s Y _ _ U L _ _ _ _ Q1 R1 _ _ Q0 R0 w (by omega) hy hy1 hl0 hl1 (by omega) (by omega) hLZ ?_ hY0 hY1 rfl (by omega) (by omega) (and_low Y (by omega) hY1) (by omega) (by omega) ?_ hU0.1 (by omega) ?_ rfl (by omega) (by omega) (and_low L hL0.1 (by omega)) (by omega) (by omega)
    (wrap_tdiv U _ hU0.1 (by omega) (by omega)) (wrap_mod U _ hU0.1 (by omega) (by omega)) C1 (Knuth.start C1) (wrap_rest U _ Q1 Y R1 k5 k7 (by omega)) (wrap_tdiv R1 _ k7 (by omega) (by omega)) (wrap_mod R1 _ k7 (by omega) (by omega)) C2 (Knuth.start C2) _ _ ?_ ?_
  · rw [es, eY, wrap_u64]; omega
  · rw [es, ed, ← eU, ← hor, wrap_u64, Int.emod_eq_of_lt m1 (by omega)]
  · rw [es, wrap_u64, eL]
  · rw [wrap_u64, wrap_u64]; omega
  · rw [wrap_rest R1 _ Q0 Y R0 k6 k9 (by omega), es, hR, Int.mul_ediv_cancel _ (by omega)]
end Go.Proofs.YtmepocffafcibaaDoor
