/-
  Mod AND Floor OF num, Floor OF THE REFERENCE: what each call returns; the world is as it was.
-/
import Derived.Test.YtmepocffafcibaaDoorSmall
namespace Go.Proofs.YtmepocffafcibaaDoor
open Go.RowKit
theorem tmod_bounds (a b : Int) (h1 : -1000000000000000000 ≤ a) (h2 : a ≤ 1000000000000000000) : -1000000000000000000 ≤ a.tmod b ∧ a.tmod b ≤ 1000000000000000000 := by
  have h := Int.natAbs_tmod a b
  have h3 := Nat.mod_le a.natAbs b.natAbs
  omega
/-- What Mod tells. -/
def modX (a b : Int) : Int := bif fitsB a && fitsB b then (bif b == 0 then 0 else (a.tmod b + b).tmod b) else 0
def modE (a b : Int) : Int := bif fitsB a && fitsB b then (bif b == 0 then 4 else 0) else 2
theorem mod_any (a b : Int) (w : World) :
    Calls Tryd.prog 13 #[.int .i64 a, .int .i64 b] w fun e w' => e = .returned (.tuple #[.int .i64 (modX a b), .int .i64 (modE a b)]) ∧ w = w' := by
  cases ha : fitsB a with
  | false =>
    have e1 : modX a b = 0 := by unfold modX; rw [ha]; rfl
    have e2 : modE a b = 2 := by unfold modE; rw [ha]; rfl
    rw [e1, e2]
    clear e1 e2
    go_enter Tryd.func13, Tryd.ntmps13
    go_wp2_with (go_at_call 22; refine (fits_any _ _).mono ?_; rintro e w' ⟨rfl, rfl⟩)
    go_ret2
    exact ⟨rfl, rfl⟩
  | true =>
    cases hb : fitsB b with
    | false =>
      have e1 : modX a b = 0 := by unfold modX; rw [ha, hb]; rfl
      have e2 : modE a b = 2 := by unfold modE; rw [ha, hb]; rfl
      rw [e1, e2]
      clear e1 e2
      go_enter Tryd.func13, Tryd.ntmps13
      go_wp2_with (go_at_call 22; refine (fits_any _ _).mono ?_; rintro e w' ⟨rfl, rfl⟩)
      go_ret2
      exact ⟨rfl, rfl⟩
    | true =>
      cases hz : b == 0 with
      | true =>
        have e1 : modX a b = 0 := by unfold modX; rw [ha, hb, hz]; rfl
        have e2 : modE a b = 4 := by unfold modE; rw [ha, hb, hz]; rfl
        rw [e1, e2]
        clear e1 e2
        go_enter Tryd.func13, Tryd.ntmps13
        go_wp2_with (go_at_call 22; refine (fits_any _ _).mono ?_; rintro e w' ⟨rfl, rfl⟩)
        go_ret2
        exact ⟨rfl, rfl⟩
      | false =>
        obtain ⟨a1, a2⟩ := fitsB_bounds ha
        obtain ⟨b1, b2⟩ := fitsB_bounds hb
        have bz : ¬ b = 0 := by simpa using hz
        obtain ⟨t1, t2⟩ := tmod_bounds a b a1 a2
        have e1 : modX a b = (a.tmod b + b).tmod b := by unfold modX; rw [ha, hb, hz]; rfl
        have e2 : modE a b = 0 := by unfold modE; rw [ha, hb, hz]; rfl
        rw [e1, e2]
        clear e1 e2
        go_enter Tryd.func13, Tryd.ntmps13
        go_wp2_with (go_at_call 22; refine (fits_any _ _).mono ?_; rintro e w' ⟨rfl, rfl⟩)
        go_ret2
        exact ⟨rfl, rfl⟩

/-- What Floor tells. -/
def florX (n : Int) : Int := bif fitsB n then toldX (n - n % 1000000) else 0
def florE (n : Int) : Int := bif fitsB n then toldE (n - n % 1000000) else 2
theorem tmod_unit (n : Int) : (0 ≤ n.tmod 1000000 → n.tmod 1000000 = n % 1000000) ∧ (n.tmod 1000000 < 0 → n.tmod 1000000 + 1000000 = n % 1000000) ∧ -1000000 < n.tmod 1000000 ∧ n.tmod 1000000 < 1000000 := by
  have h1 := Int.mul_tdiv_add_tmod n 1000000
  have h2 := Int.natAbs_tmod n 1000000
  have h3 := Nat.mod_lt n.natAbs (show 0 < (1000000 : Int).natAbs by decide)
  have h4 : (1000000 : Int).natAbs = 1000000 := rfl
  omega
theorem unit_up (n : Int) : (n.tmod 1000000 + 1000000) % 1000000 = n % 1000000 := by
  have := tmod_unit n
  omega
theorem floor_any (n : Int) (w : World) :
    Calls Tryd.prog 16 #[.int .i64 n] w fun e w' => e = .returned (.tuple #[.int .i64 (florX n), .int .i64 (florE n)]) ∧ w = w' := by
  cases ha : fitsB n with
  | false =>
    have e1 : florX n = 0 := by unfold florX; rw [ha]; rfl
    have e2 : florE n = 2 := by unfold florE; rw [ha]; rfl
    rw [e1, e2]
    clear e1 e2
    go_enter Tryd.func16, Tryd.ntmps16
    go_wp2_with (go_at_call 22; refine (fits_any _ _).mono ?_; rintro e w' ⟨rfl, rfl⟩)
    go_ret2
    exact ⟨rfl, rfl⟩
  | true =>
    have e1 : florX n = toldX (n - n % 1000000) := by unfold florX; rw [ha]; rfl
    have e2 : florE n = toldE (n - n % 1000000) := by unfold florE; rw [ha]; rfl
    rw [e1, e2]
    clear e1 e2
    obtain ⟨a1, a2⟩ := fitsB_bounds ha
    obtain ⟨t1, t2, t3, t4⟩ := tmod_unit n
    go_enter Tryd.func16, Tryd.ntmps16
    have hu := unit_up n
    have hv : n.tmod 1000000 % 1000000 = n % 1000000 := by omega
    go_wp2_with (go_at_call 22; refine (fits_any _ _).mono ?_; rintro e w' ⟨rfl, rfl⟩)
    refine (told_any _ _).mono ?_
    rintro e w' ⟨rfl, rfl⟩
    go_wp2_with fail
    go_ret2
    exact ⟨rfl, rfl⟩
theorem rfloor_any (n : Int) (w : World) :
    Calls Tryd.prog 17 #[.int .i64 n] w fun e w' => e = .returned (.tuple #[.int .i64 (florX n), .int .i64 (florE n)]) ∧ w = w' := by
  cases ha : fitsB n with
  | false =>
    have e1 : florX n = 0 := by unfold florX; rw [ha]; rfl
    have e2 : florE n = 2 := by unfold florE; rw [ha]; rfl
    rw [e1, e2]
    clear e1 e2
    go_enter Tryd.func17, Tryd.ntmps17
    go_wp2_with (go_at_call 23; refine (rfits_any _ _).mono ?_; rintro e w' ⟨rfl, rfl⟩)
    go_ret2
    exact ⟨rfl, rfl⟩
  | true =>
    have e1 : florX n = toldX (n - n % 1000000) := by unfold florX; rw [ha]; rfl
    have e2 : florE n = toldE (n - n % 1000000) := by unfold florE; rw [ha]; rfl
    rw [e1, e2]
    clear e1 e2
    obtain ⟨a1, a2⟩ := fitsB_bounds ha
    obtain ⟨t1, t2, t3, t4⟩ := tmod_unit n
    by_cases hs : n.tmod 1000000 < 0
    · have hv := t2 hs
      clear t1 t2
      go_enter Tryd.func17, Tryd.ntmps17
      go_wp2_with (go_at_call 23; refine (rfits_any _ _).mono ?_; rintro e w' ⟨rfl, rfl⟩)
      refine (rtold_any _ _).mono ?_
      rintro e w' ⟨rfl, rfl⟩
      go_wp2_with fail
      go_ret2
      exact ⟨rfl, rfl⟩
    · have hv := t1 (by omega)
      have hs' : decide (n.tmod 1000000 < 0) = false := decide_eq_false hs
      have hs2 : decide (n % 1000000 < 0) = false := decide_eq_false (by omega)
      clear t1 t2
      go_enter Tryd.func17, Tryd.ntmps17
      go_wp2_with (go_at_call 23; refine (rfits_any _ _).mono ?_; rintro e w' ⟨rfl, rfl⟩)
      refine (rtold_any _ _).mono ?_
      rintro e w' ⟨rfl, rfl⟩
      go_wp2_with fail
      go_ret2
      exact ⟨rfl, rfl⟩
end Go.Proofs.YtmepocffafcibaaDoor
