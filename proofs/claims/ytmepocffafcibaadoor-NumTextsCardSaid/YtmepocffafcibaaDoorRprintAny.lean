/-
  Print OF THE REFERENCE AT EVERY INT: what it returns is 'prtS', 'prtE'; of what was there nothing is turned.
-/
import Derived.Test.YtmepocffafcibaaDoorRprint
import Derived.Test.YtmepocffafcibaaDoorBackLaw
namespace Go.Proofs.YtmepocffafcibaaDoor
open Go.RowKit

/-- Digits of one length that spell one number are the same. -/
theorem valD_inj : ∀ (a b : List UInt8), allD a = true → allD b = true → a.length = b.length → valD a = valD b → a = b
  | [], [], _, _, _, _ => rfl
  | [], _ :: _, _, _, h, _ => by cases h
  | _ :: _, [], _, _, h, _ => by cases h
  | c :: r, c' :: r', ha, hb, hl, hv => by
    unfold allD at ha hb
    rw [List.all_cons, Bool.and_eq_true] at ha hb
    have h1 := isDig_bounds ha.1
    have h2 := isDig_bounds hb.1
    have hl' : r.length = r'.length := by simpa using hl
    have v1 := valD_lt r ha.2
    have v2 := valD_lt r' hb.2
    rw [valD_cons, valD_cons, ← hl'] at hv
    rw [← hl'] at v2
    have hx : c.toNat - 48 = c'.toNat - 48 := by
      rcases Nat.lt_trichotomy (c.toNat - 48) (c'.toNat - 48) with h | h | h
      · have h3 := Nat.mul_le_mul_right (10 ^ r.length) (show (c.toNat - 48) + 1 ≤ c'.toNat - 48 by omega)
        rw [Nat.add_mul, Nat.one_mul] at h3
        omega
      · exact h
      · have h3 := Nat.mul_le_mul_right (10 ^ r.length) (show (c'.toNat - 48) + 1 ≤ c.toNat - 48 by omega)
        rw [Nat.add_mul, Nat.one_mul] at h3
        omega
    rw [hx] at hv
    have hc : c = c' := UInt8.toNat_inj.1 (by omega)
    rw [hc, valD_inj r r' ha.2 hb.2 hl' (by omega)]

theorem nDigits_six (u : Nat) : Lib.nDigits (u / 1000000) = (7 - Lib.nDigits u + Lib.nDigits u) - 6 := by
  by_cases h : u < 10000000
  · have h1 := nDigits_le 6 u h
    have h2 := Lib.nDigits_pos u
    rw [Lib.nDigits_small (u := u / 1000000) (by omega)]
    omega
  · have e1 := Lib.nDigits_big (u := u) (by omega)
    have e2 := Lib.nDigits_big (u := u / 10) (by omega)
    have e3 := Lib.nDigits_big (u := u / 10 / 10) (by omega)
    have e4 := Lib.nDigits_big (u := u / 10 / 10 / 10) (by omega)
    have e5 := Lib.nDigits_big (u := u / 10 / 10 / 10 / 10) (by omega)
    have e6 := Lib.nDigits_big (u := u / 10 / 10 / 10 / 10 / 10) (by omega)
    have e7 := Lib.nDigits_pos (u / 1000000)
    rw [show u / 10 / 10 / 10 / 10 / 10 / 10 = u / 1000000 by omega] at e6
    omega

theorem pad_parts (u : Nat) (h : u ≤ 1000000000000000000) :
    (pad u).take ((pad u).length - 6) = Lib.decDigits (u / 1000000) ∧ (pad u).drop ((pad u).length - 6) = (Lib.decDigits (1000000 + u % 1000000)).drop 1 ∧ (Lib.decDigits (1000000 + u % 1000000)).length = 7 := by
  obtain ⟨p1, p2⟩ := pad_length u h
  obtain ⟨v1, v2⟩ := pad_val u
  have pl : (pad u).length = 7 - Lib.nDigits u + Lib.nDigits u := by
    unfold pad; rw [List.length_append, List.length_replicate, Lib.decDigits_length]
  obtain ⟨t1, t2⟩ := allD_take ((pad u).length - 6) v2
  have tv := take_drop_val (pad u) ((pad u).length - 6)
  rw [v1, show (pad u).length - ((pad u).length - 6) = 6 by omega] at tv
  have dl : ((pad u).drop ((pad u).length - 6)).length = 6 := by rw [List.length_drop]; omega
  have tl : ((pad u).take ((pad u).length - 6)).length = (pad u).length - 6 := by rw [List.length_take]; omega
  have dv := valD_lt _ t2
  rw [dl] at dv
  obtain ⟨w1, w2⟩ := dec_val (u / 1000000)
  obtain ⟨g1, g2⟩ := dec_val (1000000 + u % 1000000)
  have gl : (Lib.decDigits (1000000 + u % 1000000)).length = 7 := by
    rw [Lib.decDigits_length]
    exact Lib.nDigits_unique 6 _ (by omega) (by omega)
  refine ⟨valD_inj _ _ t1 w2 ?_ ?_, ?_, gl⟩
  · rw [tl, Lib.decDigits_length, nDigits_six, pl]
  · rw [w1]; omega
  · generalize Lib.decDigits (1000000 + u % 1000000) = g at *
    cases g with
    | nil => cases gl
    | cons c r =>
      have rl : r.length = 6 := by simpa using gl
      unfold allD at g2
      rw [List.all_cons, Bool.and_eq_true] at g2
      have rv := valD_lt r g2.2
      rw [valD_cons, rl] at g1
      rw [rl] at rv
      refine valD_inj _ _ t2 g2.2 (by rw [dl]; exact rl.symm) ?_
      show _ = valD r
      omega

theorem rprint_any (n : Int) (w : World) :
    Calls Tryd.prog 28 #[.int .i64 n] w fun e w' => e = .returned (.tuple #[.string ⟨(prtS n).toArray⟩, .int .i64 (prtE n)]) ∧ Below w.heap.size w w' := by
  cases ha : fitsB n with
  | false =>
    have e1 : prtS n = [] := by unfold prtS; rw [ha]; rfl
    have e2 : prtE n = 2 := by unfold prtE; rw [ha]; rfl
    rw [e1, e2]
    clear e1 e2
    go_enter Tryd.func28, Tryd.ntmps28
    go_wp2_with (go_at_call 23; refine (rfits_any _ _).mono ?_; rintro e w' ⟨rfl, rfl⟩)
    go_ret2
    exact ⟨rfl, Below.refl _ _⟩
  | true =>
    obtain ⟨a1, a2⟩ := fitsB_bounds ha
    have hu : n.natAbs ≤ 1000000000000000000 := by omega
    have e1 : prtS n = prtOut (decide (n < 0)) ((pad n.natAbs).take ((pad n.natAbs).length - 6)) (Lib.trimRightB ((pad n.natAbs).drop ((pad n.natAbs).length - 6)) 48) := by unfold prtS; rw [ha]; rfl
    have e2 : prtE n = 0 := by unfold prtE; rw [ha]; rfl
    obtain ⟨q1, q2, q3⟩ := pad_parts n.natAbs hu
    rw [e1, e2, q1, q2]
    have dl : (Lib.decDigits (n.natAbs / 1000000)).length ≤ 20 := by
      have h1 := nDigits_le 18 (n.natAbs / 1000000) (by omega)
      rw [Lib.decDigits_length]; omega
    have hD := rdigits_any (n.natAbs / 1000000) (by omega)
    rw [show ((n.natAbs / 1000000 : Nat) : Int) = (n.natAbs : Int) / 1000000 by omega] at hD
    have hG := rdigits_any (1000000 + n.natAbs % 1000000) (by omega)
    rw [show ((1000000 + n.natAbs % 1000000 : Nat) : Int) = 1000000 + (n.natAbs : Int) % 1000000 by omega] at hG
    have hS : ∀ w, Calls Tryd.prog 34 #[.int .i64 n] w fun e w' => e = .returned (.int .i64 (n.natAbs : Int)) ∧ w = w' := fun w => rsize_of n _ w rfl (by omega)
    generalize Lib.decDigits (1000000 + n.natAbs % 1000000) = g at *
    generalize Lib.decDigits (n.natAbs / 1000000) = d at *
    have hx : (⟨g.toArray⟩ : ByteArray).extract 1 7 = ⟨(g.drop 1).toArray⟩ := by
      rw [Lib.extract_mk, List.take_of_length_le (by rw [List.length_drop]; omega)]
    have hfs : (⟨(g.drop 1).toArray⟩ : ByteArray).size = 6 := by rw [Lib.size_mk, List.length_drop]; omega
    have hpl : (Lib.trimRightB (g.drop 1) 48).length ≤ 6 := by
      have := trimRightB_length (g.drop 1) 48
      rw [List.length_drop] at this; omega
    by_cases hneg : n < 0
    · rw [decide_eq_true hneg]
      exact rprint_neg n n.natAbs d g _ _ _ w a1 a2 rfl dl q3 hx hfs rfl hpl rfl hneg hS hD hG
    · rw [decide_eq_false hneg]
      exact rprint_pos n n.natAbs d g _ _ _ w a1 a2 rfl dl q3 hx hfs rfl hpl rfl hneg hS hD hG
end Go.Proofs.YtmepocffafcibaaDoor
