/-
  NumBack, THE PLAIN LAW: what Print writes, Parse reads as it was; what Parse reads fits; what it refuses it gives as 0. No program in sight.
-/
import Derived.Test.YtmepocffafcibaaDoorRparseAny
import Derived.Test.YtmepocffafcibaaDoorText
namespace Go.Proofs.YtmepocffafcibaaDoor

theorem dig_digit (i : Nat) (h : i < 10) : (UInt8.ofNat (48 + i)).toNat = 48 + i := by
  rw [UInt8.toNat_ofNat']; omega
theorem dec_val (u : Nat) : valD (Lib.decDigits u) = u ∧ allD (Lib.decDigits u) = true := by
  induction u using Nat.strongRecOn with
  | _ u ih =>
    by_cases h : u < 10
    · rw [Lib.decDigits_one h]
      constructor
      · show 10 * 0 + ((UInt8.ofNat (48 + u)).toNat - 48) = u
        rw [dig_digit u h]; omega
      · show (isDig (UInt8.ofNat (48 + u)) && true) = true
        unfold isDig
        rw [dig_digit u h, decide_eq_true (by omega), decide_eq_true (by omega)]; rfl
    · obtain ⟨h1, h2⟩ := ih (u / 10) (by omega)
      rw [Lib.decDigits, dif_neg h]
      constructor
      · rw [valD_snoc, h1, dig_digit _ (by omega)]; omega
      · rw [allD_snoc, h2]
        unfold isDig
        rw [dig_digit _ (by omega), decide_eq_true (by omega), decide_eq_true (by omega)]; rfl
theorem allD_append (a b : List UInt8) : allD (a ++ b) = (allD a && allD b) := by unfold allD; rw [List.all_append]
theorem allD_zeros (k : Nat) : allD (List.replicate k 48) = true := List.all_eq_true.2 fun x hx => by rw [(List.mem_replicate.1 hx).2]; decide
theorem pad_val (u : Nat) : valD (pad u) = u ∧ allD (pad u) = true := by
  obtain ⟨h1, h2⟩ := dec_val u
  unfold pad
  rw [valD_append, allD_append, valD_zeros, h1, h2, allD_zeros]
  exact ⟨by omega, rfl⟩

/-- What the noughts at the end leave. -/
theorem trimRight_parts (l : List UInt8) : ∃ k, l = Lib.trimRightB l 48 ++ List.replicate k 48 := by
  unfold Lib.trimRightB
  have h : ∀ m : List UInt8, ∃ k, m = List.replicate k 48 ++ m.dropWhile (· == 48) := by
    intro m
    induction m with
    | nil => exact ⟨0, rfl⟩
    | cons c r ih =>
      rw [List.dropWhile_cons]
      by_cases hc : c = 48
      · subst hc
        obtain ⟨k, hk⟩ := ih
        refine ⟨k + 1, ?_⟩
        rw [if_pos (by decide), List.replicate_succ, List.cons_append, ← hk]
      · exact ⟨0, by rw [if_neg (by simpa using hc)]; rfl⟩
  obtain ⟨k, hk⟩ := h l.reverse
  refine ⟨k, ?_⟩
  have := congrArg List.reverse hk
  rw [List.reverse_reverse, List.reverse_append, List.reverse_replicate] at this
  exact this

theorem digB_of {l : List UInt8} (h : allD l = true) (h0 : l ≠ []) : digB l = true := by
  unfold digB
  cases l with
  | nil => exact absurd rfl h0
  | cons c r => rw [h]; rfl
theorem allD_notMinus {c : UInt8} {r : List UInt8} (h : allD (c :: r) = true) : c ≠ 45 := by
  rintro rfl
  have h' : (isDig 45 && allD r) = true := h
  have e : isDig 45 = false := by decide
  rw [e] at h'
  cases h'

/-- Reading what is written out of a sign, a row of digits, and a shortened fraction. -/
theorem read_out (b : Bool) (wh pt : List UInt8) (hw : allD wh = true) (hw0 : wh ≠ []) (hp : allD pt = true) (h6 : pt.length ≤ 6) (hl : wh.length ≤ 13) :
    parP (prtOut b wh pt) = finS b (valD wh) (valD pt * 10 ^ (6 - pt.length)) := by
  have hb : parP (prtOut b wh pt) = rparS b (wh ++ (bif pt.isEmpty then [] else 46 :: pt)) := by
    have hlen : (wh ++ (bif pt.isEmpty then [] else 46 :: pt)).length ≤ 20 := by
      rw [List.length_append]
      cases pt with
      | nil => show wh.length + 0 ≤ 20; omega
      | cons c r => show wh.length + (r.length + 1 + 1) ≤ 20; rw [List.length_cons] at h6; omega
    cases b with
    | true =>
      refine parP_minus (wh ++ (bif pt.isEmpty then [] else 46 :: pt)) ?_
      rw [List.length_cons]; omega
    | false =>
      cases wh with
      | nil => exact absurd rfl hw0
      | cons c r =>
        refine parP_plain c (r ++ (bif pt.isEmpty then [] else 46 :: pt)) (allD_notMinus hw) ?_
        rw [List.cons_append, List.length_cons] at hlen
        rw [List.length_cons]
        omega
  rw [hb]
  have hd := digB_of hw hw0
  cases hpt : pt with
  | nil =>
    show rparS b (wh ++ []) = _
    rw [List.append_nil, rpar_whole b wh hd]
    show _ = finS b (valD wh) (0 * 10 ^ 6)
    rw [Nat.zero_mul]
  | cons c r =>
    rw [← hpt]
    have e : pt.isEmpty = false := by rw [hpt]; rfl
    rw [e, cond_false]
    exact rpar_part b wh pt hd (digB_of hp (by rw [hpt]; simp)) h6

theorem take_drop_val (l : List UInt8) (k : Nat) : valD (l.take k) * 10 ^ (l.length - k) + valD (l.drop k) = valD l := by
  have h := valD_append (l.take k) (l.drop k)
  rw [List.take_append_drop, List.length_drop] at h
  exact h.symm
theorem allD_take {l : List UInt8} (k : Nat) (h : allD l = true) : allD (l.take k) = true ∧ allD (l.drop k) = true := by
  rw [← List.take_append_drop k l, allD_append, Bool.and_eq_true] at h
  exact h

theorem finS_int (n : Int) (V F : Nat) (h : V * 1000000 + F = n.natAbs) (hn : n.natAbs ≤ 1000000000000000000) : finS (decide (n < 0)) V F = (n, 0) := by
  by_cases hs : n < 0
  · rw [decide_eq_true hs, finS_neg (by omega), h]
    exact congrArg (·, (0 : Int)) (by omega)
  · rw [decide_eq_false hs, finS_pos (by omega), h]
    exact congrArg (·, (0 : Int)) (by omega)

/-- What is written is read as it was. -/
theorem read_back (n : Int) (h : fitsB n = true) : parP (prtS n) = (n, 0) := by
  obtain ⟨a1, a2⟩ := fitsB_bounds h
  have hu : n.natAbs ≤ 1000000000000000000 := by omega
  have e1 : prtS n = prtOut (decide (n < 0)) ((pad n.natAbs).take ((pad n.natAbs).length - 6)) (Lib.trimRightB ((pad n.natAbs).drop ((pad n.natAbs).length - 6)) 48) := by unfold prtS; rw [h, cond_true]
  rw [e1]
  clear e1
  obtain ⟨p1, p2⟩ := pad_length n.natAbs hu
  obtain ⟨v1, v2⟩ := pad_val n.natAbs
  generalize pad n.natAbs = P at *
  obtain ⟨k, hk⟩ := trimRight_parts (P.drop (P.length - 6))
  obtain ⟨t1, t2⟩ := allD_take (P.length - 6) v2
  have tv := take_drop_val P (P.length - 6)
  have dl : (P.drop (P.length - 6)).length = 6 := by rw [List.length_drop]; omega
  have tl : (P.take (P.length - 6)).length = P.length - 6 := by rw [List.length_take]; omega
  generalize P.take (P.length - 6) = wh at *
  generalize P.drop (P.length - 6) = r at *
  generalize Lib.trimRightB r 48 = pt at *
  have hl : pt.length + k = 6 := by rw [← dl, hk, List.length_append, List.length_replicate]
  have hv : valD r = valD pt * 10 ^ k := by rw [hk, valD_append, valD_zeros, List.length_replicate, Nat.add_zero]
  have hp : allD pt = true := by rw [hk, allD_append, Bool.and_eq_true] at t2; exact t2.1
  rw [read_out _ wh pt t1 (by intro e; rw [e] at tl; simp at tl; omega) hp (by omega) (by omega), show 6 - pt.length = k by omega]
  refine finS_int n _ _ ?_ hu
  rw [← hv, ← v1, ← tv, show P.length - (P.length - 6) = 6 by omega]

theorem finS_ok {b : Bool} {V F : Nat} : (finS b V F).2 = 0 ∧ fitsB (finS b V F).1 = true ∨ (finS b V F).2 ≠ 0 ∧ (finS b V F).1 = 0 := by
  by_cases h : 1000000000000000000 < V * 1000000 + F
  · right; rw [finS_over h]; exact ⟨by decide, rfl⟩
  · left
    cases b with
    | true => rw [finS_neg h]; exact ⟨rfl, fitsB_yes (by omega) (by omega)⟩
    | false => rw [finS_pos h]; exact ⟨rfl, fitsB_yes (by omega) (by omega)⟩
theorem bad_ok : ((0, 5) : Int × Int).2 = 0 ∧ fitsB ((0, 5) : Int × Int).1 = true ∨ ((0, 5) : Int × Int).2 ≠ 0 ∧ ((0, 5) : Int × Int).1 = 0 := Or.inr ⟨by decide, rfl⟩
/-- What is read fits; what is refused is 0. -/
theorem parP_ok (l : List UInt8) : (parP l).2 = 0 ∧ fitsB (parP l).1 = true ∨ (parP l).2 ≠ 0 ∧ (parP l).1 = 0 := by
  unfold parP
  split
  · exact bad_ok
  · unfold rparS rparAt
    split
    · exact bad_ok
    · split
      · exact finS_ok
      · split
        · exact bad_ok
        · split
          · exact finS_ok
          · exact bad_ok
end Go.Proofs.YtmepocffafcibaaDoor
