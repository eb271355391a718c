/-
  bare, ITS CLOSURE, AND '(pair).over' OUT OF A CONTRACT OF bits.Div64 AT THREE NUMBERS: what each call returns; of what was there when the call began nothing is turned.
-/
import Derived.Test.YtmepocffafcibaaDoorSmall
import Derived.Deep.QuietTactic
import Derived.BigQuiet
import Derived.Lib.Hide
namespace Go.Proofs.YtmepocffafcibaaDoor
open Go.RowKit

/-- The closure that 'bare' makes: the sign is behind its captured variable's address. -/
def signF (b : Nat) : Value := .func (.func 46) #[] #[.pointer (some ⟨b, 0, none⟩)]
/-- Has a product of a and b a sign? -/
def minusB (a b : Int) : Bool := decide (a < 0) != decide (b < 0)

theorem bare_any (a b : Int) (w : World) (ha1 : -9223372036854775807 ≤ a) (ha2 : a ≤ 9223372036854775807) (hb1 : -9223372036854775807 ≤ b) (hb2 : b ≤ 9223372036854775807) :
    Calls Tryd.prog 29 #[.int .i64 a, .int .i64 b] w fun e w' => e = .returned (.tuple #[.int .u64 (a.natAbs : Int), .int .u64 (b.natAbs : Int), signF w.heap.size]) ∧ w.alloc (.cells #[.bool (minusB a b)] 4) = w' := by
  by_cases h1 : a < 0
  · have e1 : (a.natAbs : Int) = -a := by omega
    by_cases h2 : b < 0
    · have e2 : (b.natAbs : Int) = -b := by omega
      have e3 : minusB a b = false := by unfold minusB; rw [decide_eq_true h1, decide_eq_true h2]; rfl
      rw [e1, e2, e3]
      clear e1 e2 e3
      go_enter Tryd.func29, Tryd.ntmps29
      go_wp2
      go_ret3
      exact ⟨rfl, rfl⟩
    · have e2 : (b.natAbs : Int) = b := by omega
      have e3 : minusB a b = true := by unfold minusB; rw [decide_eq_true h1, decide_eq_false h2]; rfl
      have h2' : decide (b < 0) = false := decide_eq_false h2
      rw [e1, e2, e3]
      clear e1 e2 e3
      go_enter Tryd.func29, Tryd.ntmps29
      go_wp2
      go_ret3
      exact ⟨rfl, rfl⟩
  · have e1 : (a.natAbs : Int) = a := by omega
    have h1' : decide (a < 0) = false := decide_eq_false h1
    by_cases h2 : b < 0
    · have e2 : (b.natAbs : Int) = -b := by omega
      have e3 : minusB a b = true := by unfold minusB; rw [decide_eq_false h1, decide_eq_true h2]; rfl
      rw [e1, e2, e3]
      clear e1 e2 e3
      go_enter Tryd.func29, Tryd.ntmps29
      go_wp2
      go_ret3
      exact ⟨rfl, rfl⟩
    · have e2 : (b.natAbs : Int) = b := by omega
      have e3 : minusB a b = false := by unfold minusB; rw [decide_eq_false h1, decide_eq_false h2]; rfl
      have h2' : decide (b < 0) = false := decide_eq_false h2
      rw [e1, e2, e3]
      clear e1 e2 e3
      go_enter Tryd.func29, Tryd.ntmps29
      go_wp2
      go_ret3
      exact ⟨rfl, rfl⟩

/-- A number with its sign put back. -/
def putB (m : Bool) (n : Int) : Int := bif m then -n else n
theorem sign_any (m : Bool) (n : Int) (b : Nat) (w : World) (h1 : -9223372036854775807 ≤ n) (h2 : n ≤ 9223372036854775807) (hc : w.cell? ⟨b, 0, none⟩ = some (.bool m)) :
    Calls Tryd.prog 46 #[.int .i64 n, .pointer (some ⟨b, 0, none⟩)] w fun e w' => e = .returned (.int .i64 (putB m n)) ∧ w = w' := by
  cases m with
  | false =>
    have e : putB false n = n := rfl
    rw [e]
    clear e
    go_enter Tryd.func46, Tryd.ntmps46
    go_wp2
    go_ret
    exact ⟨rfl, rfl⟩
  | true =>
    have e : putB true n = -n := rfl
    rw [e]
    clear e
    go_enter Tryd.func46, Tryd.ntmps46
    go_wp2
    go_ret
    exact ⟨rfl, rfl⟩


/-- Is a quotient rounded up? -/
def upB (q r y : Int) : Bool := decide (y - r < r) || (decide (r = y - r) && decide (q % 2 = 1))
/-- A quotient, rounded. -/
def rndI (q r y : Int) : Int := bif upB q r y then q + 1 else q
/-- What 'over' tells. -/
def ovX (q r y : Int) : Int := bif decide (q ≤ 1000000000000000000) then rndI q r y else 0
def ovB (q r y : Int) : Bool := decide (rndI q r y ≤ 1000000000000000000)
/-- Div64's contract at three numbers. -/
def DivAt (h l y q r : Int) : Prop := ∀ w, Calls Tryd.prog 47 #[.int .u64 h, .int .u64 l, .int .u64 y] w fun e w' => e = .returned (.tuple #[.int .u64 q, .int .u64 r]) ∧ ∃ n, w.drewN n = w'
theorem below_box (w : World) (o : Obj) (n : Nat) : Below w.heap.size w ((w.alloc o).drewN n) := below_drewN ((Below.refl _ _).alloc (Nat.le_refl _) _) n

theorem over_big (h l y : Int) (w : World) (q r : Int) (hD : DivAt h l y q r) (hy : h < y) (hq : 1000000000000000000 < q) :
    Calls Tryd.prog 30 #[.agg #[.int .u64 h, .int .u64 l], .int .u64 y] w fun e w' => e = .returned (.tuple #[.int .i64 0, .bool false]) ∧ Below w.heap.size w w' := by
  go_enter Tryd.func30, Tryd.ntmps30
  go_wp2_with fail
  refine (hD _).mono ?_
  rintro e w' ⟨rfl, n, rfl⟩
  go_wp2_with fail
  go_ret2
  exact ⟨rfl, below_box _ _ _⟩
theorem over_far (h l y : Int) (w : World) (hy : y ≤ h) :
    Calls Tryd.prog 30 #[.agg #[.int .u64 h, .int .u64 l], .int .u64 y] w fun e w' => e = .returned (.tuple #[.int .i64 0, .bool false]) ∧ Below w.heap.size w w' := by
  go_enter Tryd.func30, Tryd.ntmps30
  go_wp2_with fail
  go_ret2
  exact ⟨rfl, below_box _ _ 0⟩
theorem over_up1 (h l y : Int) (w : World) (q r : Int) (hD : DivAt h l y q r) (hy : h < y) (hq0 : 0 ≤ q) (hq : q ≤ 1000000000000000000) (_hr0 : 0 ≤ r) (hr : r < y) (hy1 : y ≤ 18446744073709551615) (hu : y - r < r) :
    Calls Tryd.prog 30 #[.agg #[.int .u64 h, .int .u64 l], .int .u64 y] w fun e w' => e = .returned (.tuple #[.int .i64 (q + 1), .bool (decide (q + 1 ≤ 1000000000000000000))]) ∧ Below w.heap.size w w' := by
  go_enter Tryd.func30, Tryd.ntmps30
  go_wp2_with fail
  refine (hD _).mono ?_
  rintro e w' ⟨rfl, n, rfl⟩
  go_wp2_with fail
  go_ret2
  exact ⟨rfl, below_box _ _ _⟩
theorem over_up2 (h l y : Int) (w : World) (q r : Int) (hD : DivAt h l y q r) (hy : h < y) (hq0 : 0 ≤ q) (hq : q ≤ 1000000000000000000) (hr0 : 0 ≤ r) (hr : r < y) (hy1 : y ≤ 18446744073709551615) (hu1 : r ≤ y - r) (hu2 : y - r ≤ r) (ho : q % 2 = 1) :
    Calls Tryd.prog 30 #[.agg #[.int .u64 h, .int .u64 l], .int .u64 y] w fun e w' => e = .returned (.tuple #[.int .i64 (q + 1), .bool (decide (q + 1 ≤ 1000000000000000000))]) ∧ Below w.heap.size w w' := by
  have ha := and_one_u64 q hq0 (by omega)
  rw [ho] at ha
  have hq2 : (r == y - r) = true := beq_iff_eq.2 (by omega)
  clear ho
  go_enter Tryd.func30, Tryd.ntmps30
  go_wp2_with fail
  refine (hD _).mono ?_
  rintro e w' ⟨rfl, n, rfl⟩
  go_wp2_with fail
  go_ret2
  exact ⟨rfl, below_box _ _ _⟩
theorem over_dn2 (h l y : Int) (w : World) (q r : Int) (hD : DivAt h l y q r) (hy : h < y) (hq0 : 0 ≤ q) (hq : q ≤ 1000000000000000000) (hr0 : 0 ≤ r) (hr : r < y) (hy1 : y ≤ 18446744073709551615) (hu1 : r ≤ y - r) (hu2 : y - r ≤ r) (ho : q % 2 = 0) :
    Calls Tryd.prog 30 #[.agg #[.int .u64 h, .int .u64 l], .int .u64 y] w fun e w' => e = .returned (.tuple #[.int .i64 (q), .bool true]) ∧ Below w.heap.size w w' := by
  have ha := and_one_u64 q hq0 (by omega)
  rw [ho] at ha
  have hq2 : (r == y - r) = true := beq_iff_eq.2 (by omega)
  clear ho
  have hn : decide (y - r < r) = false := decide_eq_false (by omega)
  go_enter Tryd.func30, Tryd.ntmps30
  go_wp2_with fail
  refine (hD _).mono ?_
  rintro e w' ⟨rfl, n, rfl⟩
  go_wp2_with fail
  go_ret2
  exact ⟨rfl, below_box _ _ _⟩
theorem over_dn1 (h l y : Int) (w : World) (q r : Int) (hD : DivAt h l y q r) (hy : h < y) (hq0 : 0 ≤ q) (hq : q ≤ 1000000000000000000) (_hr0 : 0 ≤ r) (hr : r < y) (hy1 : y ≤ 18446744073709551615) (hu : r < y - r) :
    Calls Tryd.prog 30 #[.agg #[.int .u64 h, .int .u64 l], .int .u64 y] w fun e w' => e = .returned (.tuple #[.int .i64 (q), .bool true]) ∧ Below w.heap.size w w' := by
  have hn : decide (y - r < r) = false := decide_eq_false (by omega)
  have hm : decide (1000000000000000000 < q) = false := decide_eq_false (by omega)
  go_enter Tryd.func30, Tryd.ntmps30
  go_wp2_with fail
  refine (hD _).mono ?_
  rintro e w' ⟨rfl, n, rfl⟩
  go_wp2_with fail
  go_ret2
  exact ⟨rfl, below_box _ _ _⟩

/-- '(pair).over': the quotient rounded, and whether it fits. -/
theorem over_any (h l y : Int) (w : World) (q r : Int) (hD : DivAt h l y q r) (hy : h < y) (hq0 : 0 ≤ q) (hr0 : 0 ≤ r) (hr : r < y) (hy1 : y ≤ 18446744073709551615) :
    Calls Tryd.prog 30 #[.agg #[.int .u64 h, .int .u64 l], .int .u64 y] w fun e w' => e = .returned (.tuple #[.int .i64 (ovX q r y), .bool (ovB q r y)]) ∧ Below w.heap.size w w' := by
  by_cases hq : q ≤ 1000000000000000000
  · have hx : ovX q r y = rndI q r y := by unfold ovX; rw [decide_eq_true hq]; rfl
    have hok : decide (q ≤ 1000000000000000000) = true := decide_eq_true hq
    rw [hx]
    unfold ovB
    by_cases c1 : y - r < r
    · have hu : rndI q r y = q + 1 := by unfold rndI upB; rw [decide_eq_true c1]; rfl
      rw [hu]; exact over_up1 h l y w q r hD hy hq0 hq hr0 hr hy1 c1
    · by_cases c2 : r = y - r
      · by_cases c3 : q % 2 = 1
        · have hu : rndI q r y = q + 1 := by unfold rndI upB; rw [decide_eq_true c2, decide_eq_true c3]; simp
          rw [hu]; exact over_up2 h l y w q r hD hy hq0 hq hr0 hr hy1 (by omega) (by omega) c3
        · have hu : rndI q r y = q := by unfold rndI upB; rw [decide_eq_false c1, decide_eq_false c3]; simp
          rw [hu, hok]; exact over_dn2 h l y w q r hD hy hq0 hq hr0 hr hy1 (by omega) (by omega) (by omega)
      · have hu : rndI q r y = q := by unfold rndI upB; rw [decide_eq_false c1, decide_eq_false c2]; simp
        rw [hu, hok]; exact over_dn1 h l y w q r hD hy hq0 hq hr0 hr hy1 (by omega)
  · have hx : ovX q r y = 0 := by unfold ovX; rw [decide_eq_false hq]; rfl
    have hb : ovB q r y = false := by
      unfold ovB; rw [decide_eq_false_iff_not]; unfold rndI; cases upB q r y <;> simp only [cond_true, cond_false] <;> omega
    rw [hx, hb]
    exact over_big h l y w q r hD hy (by omega)
end Go.Proofs.YtmepocffafcibaaDoor
