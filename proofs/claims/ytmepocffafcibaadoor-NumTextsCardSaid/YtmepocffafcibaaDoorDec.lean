/-
  DECIMAL TEXTS, IN PLAIN LEAN: the value that digits spell, the reference's reading of a text as one function ('rparS'), and the small laws that its walk and the plain law want. No program in sight.
-/
import Derived.Test.YtmepocffafcibaaDoorRound
import Derived.Test.YtmepocffafcibaaDoorParse
namespace Go.Proofs.YtmepocffafcibaaDoor

/-- The number that digits spell. -/
def valD (l : List UInt8) : Nat := l.foldl (fun a c => 10 * a + (c.toNat - 48)) 0
theorem valD_nil : valD [] = 0 := rfl
theorem valD_snoc (l : List UInt8) (c : UInt8) : valD (l ++ [c]) = 10 * valD l + (c.toNat - 48) := by
  unfold valD; rw [List.foldl_append]; rfl
theorem isDig_bounds {c : UInt8} (h : isDig c = true) : 48 ≤ c.toNat ∧ c.toNat ≤ 57 := by
  unfold isDig at h; rw [Bool.and_eq_true, decide_eq_true_iff, decide_eq_true_iff] at h; exact h
theorem allD_snoc (l : List UInt8) (c : UInt8) : allD (l ++ [c]) = (allD l && isDig c) := by
  unfold allD; rw [List.all_append]; simp
theorem valD_lt_from (l : List UInt8) (h : allD l = true) : ∀ a : Nat, l.foldl (fun a c => 10 * a + (c.toNat - 48)) a < (a + 1) * 10 ^ l.length := by
  induction l with
  | nil => intro a; simp
  | cons c r ih =>
    intro a
    unfold allD at h
    rw [List.all_cons, Bool.and_eq_true] at h
    have h2 := isDig_bounds h.1
    have h3 := ih h.2 (10 * a + (c.toNat - 48))
    rw [List.foldl_cons, List.length_cons, Nat.pow_succ]
    have h4 : (10 * a + (c.toNat - 48) + 1) * 10 ^ r.length ≤ (10 * (a + 1)) * 10 ^ r.length := Nat.mul_le_mul_right _ (by omega)
    have h5 : (a + 1) * (10 ^ r.length * 10) = (10 * (a + 1)) * 10 ^ r.length := by
      rw [Nat.mul_comm (10 ^ r.length) 10, ← Nat.mul_assoc, Nat.mul_comm (a + 1) 10]
    omega
theorem valD_lt (l : List UInt8) (h : allD l = true) : valD l < 10 ^ l.length := by
  have := valD_lt_from l h 0
  rw [Nat.zero_add, Nat.one_mul] at this
  exact this

/-- The whole part, as the reference keeps it: past a bound it stands still. -/
def satN (V : Nat) : Int := if V ≤ 1000000000000 then (V : Int) else 1000000000001
def satO (V : Nat) : Bool := decide (1000000000000 < V)
theorem satN_bounds (V : Nat) : 0 ≤ satN V ∧ satN V ≤ 1000000000001 := by unfold satN; split <;> omega
theorem sat_in (V d : Nat) (hd : d ≤ 9) (h : 10 * satN V + d ≤ 1000000000000) : satN (10 * V + d) = 10 * satN V + d ∧ satO (10 * V + d) = satO V := by
  unfold satN satO at *
  by_cases hV : V ≤ 1000000000000
  · rw [if_pos hV] at h ⊢
    rw [if_pos (by omega)]
    exact ⟨by omega, by rw [decide_eq_decide]; omega⟩
  · rw [if_neg hV] at h; omega
theorem sat_out (V d : Nat) (hd : d ≤ 9) (h : 1000000000000 < 10 * satN V + d) : satN (10 * V + d) = 1000000000001 ∧ satO (10 * V + d) = true := by
  unfold satN satO at *
  by_cases hV : V ≤ 1000000000000
  · rw [if_pos hV] at h
    rw [if_neg (by omega)]
    exact ⟨rfl, decide_eq_true (by omega)⟩
  · rw [if_neg (by omega)]
    exact ⟨rfl, decide_eq_true (by omega)⟩

theorem take_snoc (s : ByteArray) (k : Nat) (h : k < s.size) : s.data.toList.take (k + 1) = s.data.toList.take k ++ [s[k]] := by
  rw [List.take_succ_eq_append_getElem (by simpa using h)]; rfl

/-- Where the digits at the head end. -/
theorem head_of (l : List UInt8) (k : Nat) (hk : k ≤ l.length) (h1 : allD (l.take k) = true) (h2 : k = l.length ∨ ∃ h : k < l.length, isDig l[k] = false) : k = (l.takeWhile isDig).length := by
  induction l generalizing k with
  | nil => simp at hk; simp [hk]
  | cons c r ih =>
    cases k with
    | zero =>
      rcases h2 with h | ⟨_, h⟩
      · simp at h
      · have h' : isDig c = false := h
        simp [h']
    | succ k =>
      rw [List.take_succ_cons] at h1
      have h1' : isDig c = true ∧ allD (r.take k) = true := by
        unfold allD at h1 ⊢; rw [List.all_cons, Bool.and_eq_true] at h1; exact h1
      rw [List.takeWhile_cons, h1'.1]
      simp only [if_true, List.length_cons]
      have := ih k (by simpa using hk) h1'.2 (by
        rcases h2 with h | ⟨hl, h⟩
        · left; simpa using h
        · right; exact ⟨by simpa using hl, by simpa using h⟩)
      omega

/-- The reading of a text without its minus, the head's digits known to be k. -/
def finS (minus : Bool) (V F : Nat) : Int × Int := if 1000000000000000000 < V * 1000000 + F then (0, 3) else (bif minus then -((V * 1000000 + F : Nat) : Int) else ((V * 1000000 + F : Nat) : Int), 0)
def rparAt (minus : Bool) (l : List UInt8) (k : Nat) : Int × Int :=
  if k = 0 then (0, 5)
  else if k = l.length then finS minus (valD (l.take k)) 0
  else if l[k]? ≠ some 46 ∨ k + 1 = l.length ∨ 6 < l.length - k - 1 then (0, 5)
  else if allD (l.drop (k + 1)) = true then finS minus (valD (l.take k)) (valD (l.drop (k + 1)) * 10 ^ (6 - (l.length - (k + 1))))
  else (0, 5)
def rparS (minus : Bool) (l : List UInt8) : Int × Int := rparAt minus l (l.takeWhile isDig).length

theorem ba_len (s : ByteArray) : s.data.toList.length = s.size := by simp
theorem rparAt_zero (b : Bool) (l : List UInt8) : rparAt b l 0 = (0, 5) := rfl
theorem rparAt_end {b : Bool} {l : List UInt8} {k V : Nat} (h0 : k ≠ 0) (h1 : k = l.length) (hV : valD (l.take k) = V) : rparAt b l k = finS b V 0 := by
  unfold rparAt; rw [if_neg h0, if_pos h1, hV]
theorem rparAt_bad {b : Bool} {l : List UInt8} {k : Nat} (h0 : k ≠ 0) (h1 : k ≠ l.length) (h2 : l[k]? ≠ some 46 ∨ k + 1 = l.length ∨ 6 < l.length - k - 1) : rparAt b l k = (0, 5) := by
  unfold rparAt; rw [if_neg h0, if_neg h1, if_pos h2]
theorem rparAt_part {b : Bool} {l : List UInt8} {k V : Nat} (h0 : k ≠ 0) (h1 : k ≠ l.length) (h2 : ¬ (l[k]? ≠ some 46 ∨ k + 1 = l.length ∨ 6 < l.length - k - 1)) (h3 : allD (l.drop (k + 1)) = true) (hV : valD (l.take k) = V) :
    rparAt b l k = finS b V (valD (l.drop (k + 1)) * 10 ^ (6 - (l.length - (k + 1)))) := by
  unfold rparAt; rw [if_neg h0, if_neg h1, if_neg h2, if_pos h3, hV]
theorem rparAt_nopart {b : Bool} {l : List UInt8} {k : Nat} (h0 : k ≠ 0) (h1 : k ≠ l.length) (h3 : allD (l.drop (k + 1)) = false) : rparAt b l k = (0, 5) := by
  unfold rparAt; rw [if_neg h0, if_neg h1, h3]; simp
theorem finS_over {b : Bool} {V F : Nat} (h : 1000000000000000000 < V * 1000000 + F) : finS b V F = (0, 3) := by unfold finS; rw [if_pos h]
theorem finS_in {b : Bool} {V F : Nat} (h : ¬ 1000000000000000000 < V * 1000000 + F) : finS b V F = (bif b then -((V * 1000000 + F : Nat) : Int) else ((V * 1000000 + F : Nat) : Int), 0) := by unfold finS; rw [if_neg h]
theorem satO_yes {V : Nat} (h : 1000000000000 < V) : satO V = true := decide_eq_true h
theorem satO_no {V : Nat} (h : ¬ 1000000000000 < V) : satO V = false := decide_eq_false h
theorem satN_in {V : Nat} (h : ¬ 1000000000000 < V) : satN V = (V : Int) := by unfold satN; rw [if_pos (by omega)]

/-- The fraction, as the second loop gathers it: j digits of m, six places. -/
def partN (l : List UInt8) (j : Nat) : Int := ((valD (l.take j) * 10 ^ (6 - j) : Nat) : Int)
theorem partN_zero (l : List UInt8) : partN l 0 = 0 := by unfold partN; rw [List.take_zero, valD_nil, Nat.zero_mul]; rfl
theorem tenP_nat (k : Nat) : tenP k = ((10 ^ k : Nat) : Int) := by unfold tenP; rw [Int.natCast_pow]; rfl
theorem partN_succ (l : List UInt8) (j : Nat) (c : UInt8) (h : l.take (j + 1) = l.take j ++ [c]) (hj : j < 6) (hc : isDig c = true) : partN l (j + 1) = partN l j + tenP (6 - (j + 1)) * ((c.toNat : Int) - 48) := by
  have hb := isDig_bounds hc
  have e1 : 10 ^ (6 - j) = 10 * 10 ^ (6 - (j + 1)) := by rw [show 6 - j = (6 - (j + 1)) + 1 by omega, Nat.pow_succ, Nat.mul_comm]
  unfold partN
  rw [h, valD_snoc, tenP_nat, e1, show ((c.toNat : Int) - 48) = ((c.toNat - 48 : Nat) : Int) by omega, ← Int.natCast_mul, ← Int.natCast_add, Nat.add_mul, Nat.mul_comm 10 (valD (l.take j)), Nat.mul_assoc, Nat.mul_comm (c.toNat - 48)]
theorem partN_bounds (l : List UInt8) (j : Nat) (hj : j ≤ 6) (h : allD (l.take j) = true) : 0 ≤ partN l j ∧ partN l j < 1000000 := by
  have h1 := valD_lt _ h
  have h2 : (l.take j).length ≤ j := List.length_take_le _ _
  have h3 : 10 ^ (l.take j).length ≤ 10 ^ j := Nat.pow_le_pow_right (by omega) h2
  have h4 : valD (l.take j) * 10 ^ (6 - j) < 10 ^ j * 10 ^ (6 - j) := Nat.mul_lt_mul_of_pos_right (by omega) (Nat.pow_pos (by omega))
  rw [← Nat.pow_add, show j + (6 - j) = 6 by omega] at h4
  unfold partN
  omega
theorem tenP_div (j : Nat) (hj : j < 6) : tenP (6 - j) / 10 = tenP (6 - (j + 1)) := by
  rw [show 6 - j = (6 - (j + 1)) + 1 by omega, tenP_succ, Int.mul_ediv_cancel _ (by omega)]
theorem tenP_digit (j : Nat) (c : Int) (h0 : 0 ≤ c) (h1 : c ≤ 9) : 0 ≤ tenP (6 - (j + 1)) * c ∧ tenP (6 - (j + 1)) * c ≤ 900000 := by
  have h2 := tenP_pos (6 - (j + 1))
  have h3 : tenP (6 - (j + 1)) ≤ 100000 := by
    have : 10 ^ (6 - (j + 1)) ≤ 10 ^ 5 := Nat.pow_le_pow_right (by omega) (by omega)
    rw [tenP_nat]; omega
  have h4 : tenP (6 - (j + 1)) * c ≤ 100000 * c := Int.mul_le_mul_of_nonneg_right h3 h0
  exact ⟨Int.mul_nonneg (by omega) h0, by omega⟩
theorem drop_snoc (s : ByteArray) (k j : Nat) (h : k + 1 + j < s.size) : (s.data.toList.drop (k + 1)).take (j + 1) = (s.data.toList.drop (k + 1)).take j ++ [s[k + 1 + j]] := by
  rw [List.take_succ_eq_append_getElem (by simp; omega)]
  congr 2
  simp
  rfl
theorem allD_part {l : List UInt8} {j : Nat} (h1 : j < l.length) (h2 : isDig l[j] = false) : allD l = false := by
  cases h : allD l with
  | false => rfl
  | true =>
    have := List.all_eq_true.1 h l[j] (List.getElem_mem h1)
    rw [h2] at this; cases this
theorem five_sub (j : Nat) : 6 - (j + 1) = 5 - j := by omega
end Go.Proofs.YtmepocffafcibaaDoor
