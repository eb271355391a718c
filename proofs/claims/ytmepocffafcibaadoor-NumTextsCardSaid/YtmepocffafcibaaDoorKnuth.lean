/-
  THE PLAIN MATHEMATICS OF A TWO-DIGIT DIVISION (Knuth's D), in whole numbers: a digit that is guessed from the first half of the divisor is put right by at most two steps down. No program in sight.
-/
namespace Go.Proofs.YtmepocffafcibaaDoor.Knuth

/-- The divisor Y = v1 2^32 + v0, what is divided U 2^32 + u, its quotient's digit Q and what is left, R. -/
structure Ctx (Y v1 v0 U u Q R : Int) : Prop where
  hY : v1 * 4294967296 + v0 = Y
  v10 : 2147483648 ≤ v1
  v11 : v1 < 4294967296
  v00 : 0 ≤ v0
  v01 : v0 < 4294967296
  U0 : 0 ≤ U
  U1 : U < Y
  u0 : 0 ≤ u
  u1 : u < 4294967296
  hQ : Q * Y + R = U * 4294967296 + u
  R0 : 0 ≤ R
  R1 : R < Y

/-- What holds at each round's head: the guess q, and r beside it. -/
def Inv (v1 U Q q r : Int) : Prop := Q ≤ q ∧ q ≤ 4294967297 ∧ 0 ≤ r ∧ r < 4294967296 ∧ q * v1 + r = U

section
variable {Y v1 v0 U u Q R q r : Int}

theorem Ctx.Q_lt (c : Ctx Y v1 v0 U u Q R) : Q < 4294967296 := by
  have ⟨hY, v10, v11, v00, v01, U0, U1, u0, u1, hQ, R0, R1⟩ := c
  have h : Q * Y < 4294967296 * Y := by omega
  exact Int.lt_of_mul_lt_mul_right h (by omega)
theorem Ctx.Q_ge (c : Ctx Y v1 v0 U u Q R) : 0 ≤ Q := by
  have ⟨hY, v10, v11, v00, v01, U0, U1, u0, u1, hQ, R0, R1⟩ := c
  have h : (-1) * Y < Q * Y := by omega
  have := Int.lt_of_mul_lt_mul_right h (by omega)
  omega

theorem mul_split (hY : v1 * 4294967296 + v0 = Y) (q : Int) : q * Y = q * v1 * 4294967296 + q * v0 := by
  rw [← hY, Int.mul_add, Int.mul_assoc]

/-- The first guess. -/
theorem start (c : Ctx Y v1 v0 U u Q R) : Inv v1 U Q (U / v1) (U % v1) := by
  have ⟨hY, v10, v11, v00, v01, U0, U1, u0, u1, hQ, R0, R1⟩ := c
  have hd : U / v1 * v1 + U % v1 = U := by rw [Int.mul_comm]; exact Int.mul_ediv_add_emod U v1
  have hr0 : 0 ≤ U % v1 := Int.emod_nonneg _ (by omega)
  have hr1 : U % v1 < v1 := Int.emod_lt_of_pos _ (by omega)
  refine ⟨?_, ?_, hr0, by omega, hd⟩
  · -- Q v1 ≤ U
    have hs := mul_split hY Q
    have hQ0 := c.Q_ge
    have hq0 : 0 ≤ Q * v0 := Int.mul_nonneg hQ0 v00
    have h1 : Q * v1 < (U / v1 + 1) * v1 := by rw [Int.add_mul]; omega
    have := Int.lt_of_mul_lt_mul_right h1 (by omega)
    omega
  · have h1 : U / v1 * v1 < 4294967298 * v1 := by omega
    have := Int.lt_of_mul_lt_mul_right h1 (by omega)
    omega

theorem mul_le (hq0 : 0 ≤ q) (hq : q < 4294967296) (v00 : 0 ≤ v0) (v01 : v0 < 4294967296) : 0 ≤ q * v0 ∧ q * v0 ≤ 18446744065119617025 := by
  refine ⟨Int.mul_nonneg hq0 v00, ?_⟩
  have h1 : q * v0 ≤ 4294967295 * v0 := Int.mul_le_mul_of_nonneg_right (by omega) v00
  omega

/-- The test said yes by the first half. -/
theorem yes1 (c : Ctx Y v1 v0 U u Q R) (h : 4294967296 ≤ q) : Q + 1 ≤ q := by have := c.Q_lt; omega
/-- The test said yes by the second half. -/
theorem yes2 (c : Ctx Y v1 v0 U u Q R) (i : Inv v1 U Q q r) (h : 4294967296 * r + u < q * v0) : Q + 1 ≤ q := by
  have ⟨hY, v10, v11, v00, v01, U0, U1, u0, u1, hQ, R0, R1⟩ := c
  have ⟨_, _, _, _, i5⟩ := i
  have hs := mul_split hY q
  have h1 : Q * Y < q * Y := by omega
  have := Int.lt_of_mul_lt_mul_right h1 (by omega)
  omega
/-- The test said no: the guess is right. -/
theorem no (c : Ctx Y v1 v0 U u Q R) (i : Inv v1 U Q q r) (h : q * v0 ≤ 4294967296 * r + u) : q = Q := by
  have ⟨hY, v10, v11, v00, v01, U0, U1, u0, u1, hQ, R0, R1⟩ := c
  have ⟨i1, _, _, _, i5⟩ := i
  have hs := mul_split hY q
  have h1 : q * Y < (Q + 1) * Y := by rw [Int.add_mul]; omega
  have := Int.lt_of_mul_lt_mul_right h1 (by omega)
  omega
/-- One step down. -/
theorem step (c : Ctx Y v1 v0 U u Q R) (i : Inv v1 U Q q r) (h : Q + 1 ≤ q) (hr : r + v1 < 4294967296) : Inv v1 U Q (q - 1) (r + v1) := by
  have ⟨hY, v10, v11, v00, v01, U0, U1, u0, u1, hQ, R0, R1⟩ := c
  have ⟨i1, i2, i3, i4, i5⟩ := i
  refine ⟨by omega, by omega, by omega, hr, ?_⟩
  rw [Int.sub_mul]; omega
/-- One step down, and r has grown too far: the guess is right. -/
theorem last (c : Ctx Y v1 v0 U u Q R) (i : Inv v1 U Q q r) (h : Q + 1 ≤ q) (hr : 4294967296 ≤ r + v1) : q - 1 = Q := by
  have ⟨hY, v10, v11, v00, v01, U0, U1, u0, u1, hQ, R0, R1⟩ := c
  have ⟨i1, i2, i3, i4, i5⟩ := i
  have hs := mul_split hY (q - 1)
  have hm : (q - 1) * v1 = q * v1 - v1 := by rw [Int.sub_mul]; omega
  have hv : (q - 1) * v0 ≤ 4294967296 * v0 := Int.mul_le_mul_of_nonneg_right (by omega) v00
  have h1 : (q - 1) * Y < (Q + 1) * Y := by rw [Int.add_mul]; omega
  have := Int.lt_of_mul_lt_mul_right h1 (by omega)
  omega
end
end Go.Proofs.YtmepocffafcibaaDoor.Knuth
