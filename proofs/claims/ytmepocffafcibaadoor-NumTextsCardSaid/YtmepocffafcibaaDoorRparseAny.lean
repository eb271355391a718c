/-
  Parse OF THE REFERENCE AT EVERY TEXT: what it returns is 'parP'; the world is as it was.
-/
import Derived.Test.YtmepocffafcibaaDoorRparse
import Derived.Test.YtmepocffafcibaaDoorParseAny
namespace Go.Proofs.YtmepocffafcibaaDoor
open Go.RowKit

theorem rparse_long (l : List UInt8) (w : World) (hl : 40 < (l.length : Int)) :
    Calls Tryd.prog 26 #[.string ⟨l.toArray⟩] w fun e w' => e = .returned (.tuple #[.int .i64 0, .int .i64 5]) ∧ w = w' := by
  go_enter Tryd.func26, Tryd.ntmps26
  go_wp2_with fail
  go_ret2
  exact ⟨rfl, rfl⟩
theorem rparse_empty (w : World) :
    Calls Tryd.prog 26 #[.string ⟨#[]⟩] w fun e w' => e = .returned (.tuple #[.int .i64 0, .int .i64 5]) ∧ w = w' := by
  go_enter Tryd.func26, Tryd.ntmps26
  go_wp2_with fail
  refine wp_loop_rounds 1 ?_
  rw [rounds_succ]
  go_wp2_with fail
  go_ret2
  exact ⟨rfl, rfl⟩
theorem parP_minus (r : List UInt8) (h : ¬ 40 < (45 :: r).length) : parP (45 :: r) = rparS true r := by
  unfold parP; rw [if_neg h]; rfl
theorem parP_plain (c : UInt8) (r : List UInt8) (hc : c ≠ 45) (h : ¬ 40 < (c :: r).length) : parP (c :: r) = rparS false (c :: r) := by
  have e : Lib.hasPrefix (c :: r) [45] = false := by
    unfold Lib.hasPrefix
    simp [List.isPrefixOf]
    exact fun e => hc e.symm
  unfold parP Lib.trimPrefix; rw [if_neg h, e, if_neg (by simp)]
theorem parP_empty : parP [] = (0, 5) := rfl

theorem byte_ne {c : UInt8} (hc : c ≠ 45) : ((c.toNat : Int) == 45) = false := by
  rw [beq_eq_false_iff_ne]
  intro h
  have h2 : c.toNat = (45 : UInt8).toNat := by
    show c.toNat = 45
    omega
  exact hc (UInt8.toNat_inj.1 h2)
theorem rparse_any (l : List UInt8) (w : World) :
    Calls Tryd.prog 26 #[.string ⟨l.toArray⟩] w fun e w' => e = .returned (.tuple #[.int .i64 (parP l).1, .int .i64 (parP l).2]) ∧ w = w' := by
  by_cases hl : 40 < l.length
  · have e : parP l = (0, 5) := by unfold parP; rw [if_pos hl]
    rw [e]
    exact rparse_long l w (by omega)
  cases l with
  | nil => rw [parP_empty]; exact rparse_empty w
  | cons c r =>
    have hs : (⟨(c :: r).toArray⟩ : ByteArray).size = r.length + 1 := by rw [Lib.size_mk, List.length_cons]
    rw [List.length_cons] at hl
    by_cases hc : c = 45
    · subst hc
      rw [parP_minus r (by rw [List.length_cons]; exact hl)]
      refine rparse_minus ⟨(45 :: r).toArray⟩ ⟨r.toArray⟩ w _ _ rfl (by rw [hs]; omega) (by rw [hs]; omega) ?_ ?_ (by rw [Lib.size_mk]; omega)
      · rfl
      · rw [Lib.extract_mk, hs]
        congr 1
        simp
    · rw [parP_plain c r hc (by rw [List.length_cons]; exact hl)]
      refine rparse_plain ⟨(c :: r).toArray⟩ w _ _ rfl (by rw [hs]; omega) (by rw [hs]; omega) ?_
      show ((c.toNat : Int) == 45) = false
      exact byte_ne hc
end Go.Proofs.YtmepocffafcibaaDoor
