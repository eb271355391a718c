/-
  Parse OF THE REFERENCE: THE WALK: what the call returns, at every text of at most 40 bytes; the world is as it was.
-/
import Derived.Test.YtmepocffafcibaaDoorDec
import Derived.Deep.CutBlock
import Derived.Deep.CutRange
namespace Go.Proofs.YtmepocffafcibaaDoor
open Go.RowKit

theorem digit_any (c : UInt8) (w : World) :
    Calls Tryd.prog 41 #[.int .u8 (c.toNat : Int)] w fun e w' => e = .returned (.bool (isDig c)) ∧ w = w' := by
  by_cases h1 : 48 ≤ c.toNat
  · by_cases h2 : c.toNat ≤ 57
    · have e : isDig c = true := by unfold isDig; rw [decide_eq_true h1, decide_eq_true h2]; rfl
      have h3 : decide ((c.toNat : Int) ≤ 57) = true := decide_eq_true (by omega)
      rw [e]
      go_enter Tryd.func41, Tryd.ntmps41
      go_wp2
      go_ret
      exact ⟨rfl, rfl⟩
    · have e : isDig c = false := by unfold isDig; rw [decide_eq_false h2, Bool.and_false]
      have h3 : decide ((c.toNat : Int) ≤ 57) = false := decide_eq_false (by omega)
      rw [e]
      go_enter Tryd.func41, Tryd.ntmps41
      go_wp2
      go_ret
      exact ⟨rfl, rfl⟩
  · have e : isDig c = false := by unfold isDig; rw [decide_eq_false h1, Bool.false_and]
    rw [e]
    go_enter Tryd.func41, Tryd.ntmps41
    go_wp2
    go_ret
    exact ⟨rfl, rfl⟩

theorem pair_eq {a b c d : Int} (h : (a, b) = (c, d)) : a = c ∧ b = d := by cases h; exact ⟨rfl, rfl⟩
theorem ret2_int {a b c : Int} (h : a = b) : Ending.returned (.tuple #[.int .i64 a, .int .i64 c]) = .returned (.tuple #[.int .i64 b, .int .i64 c]) := by rw [h]
theorem sat_start (l : List UInt8) : satN (valD (l.take 0)) = 0 ∧ satO (valD (l.take 0)) = false := ⟨rfl, rfl⟩
theorem tenP_six_le (j : Nat) : tenP (6 - j) ≤ 1000000 := by
  have h : 10 ^ (6 - j) ≤ 10 ^ 6 := Nat.pow_le_pow_right (by omega) (by omega)
  rw [tenP_nat]; omega
theorem tenP_six : tenP (6 - 0) = 1000000 := rfl
theorem drop_get (s : ByteArray) (k j : Nat) (h : k + 1 + j < s.size) : (s.data.toList.drop (k + 1))[j]'(by rw [List.length_drop, ba_len]; omega) = s[k + 1 + j] := by
  rw [List.getElem_drop]; simp; rfl
theorem dot_of (s : ByteArray) (k : Nat) (h : k < s.size) (hc : s.data.toList[k]? = some 46) : s[k].toNat = 46 := by
  rw [List.getElem?_eq_getElem (by rw [ba_len]; exact h)] at hc
  have := Option.some.inj hc
  have e : s[k] = 46 := by rw [← this]; simp; rfl
  rw [e]; rfl
theorem dot_at (s : ByteArray) (k : Nat) (h : k < s.size) (hc : s[k].toNat = 46) : s.data.toList[k]? = some 46 := by
  rw [List.getElem?_eq_getElem (by rw [ba_len]; exact h)]
  have e : s[k] = 46 := UInt8.toNat_inj.1 hc
  rw [← e]; simp; rfl

/-- What holds behind the first loop: its three slots, out of how many digits stand at the head. -/
def Head1 (l : List UInt8) (n i o : Value) : Prop :=
  i = .int .i64 ((l.takeWhile isDig).length : Int) ∧ n = .int .i64 (satN (valD (l.take (l.takeWhile isDig).length))) ∧ o = .bool (satO (valD (l.take (l.takeWhile isDig).length)))
theorem head1_of {l : List UInt8} {k : Nat} {n i o : Value} (h : k = (l.takeWhile isDig).length) (hi : i = .int .i64 (k : Int)) (hn : n = .int .i64 (satN (valD (l.take k)))) (ho : o = .bool (satO (valD (l.take k)))) : Head1 l n i o := by
  subst h; exact ⟨hi, hn, ho⟩

-- omega compares atoms by unfolding: these must stay shut.
attribute [local irreducible] satN satO partN tenP valD

set_option maxRecDepth 100000 in
set_option maxHeartbeats 1000000 in
theorem rparse_minus (s u : ByteArray) (w : World) (X E : Int) (hR : rparS true u.data.toList = (X, E)) (h0 : s.size ≤ 40) (h1 : 1 ≤ s.size) (hm0 : ((s[0].toNat : Int) == 45) = true) (hx : s.extract 1 s.size = u) (hu : u.size ≤ 40) :
    Calls Tryd.prog 26 #[.string s] w fun e w' => e = .returned (.tuple #[.int .i64 X, .int .i64 E]) ∧ w = w' := by
  have HR := Lib.hid hR
  clear hR
  go_enter Tryd.func26, Tryd.ntmps26
  go_upto_block 0 with fail
  go_cut [5, 6, 7] from 23 to 44 (fun n i o wx => Head1 u.data.toList n i o ∧ w = wx)
  case first =>
    go_wp2_with fail
    go_loop [5, 6, 7] (fun n i o => ∃ k : Nat, k ≤ u.size ∧ allD (u.data.toList.take k) = true ∧ i = .int .i64 k ∧ n = .int .i64 (satN (valD (u.data.toList.take k))) ∧ o = .bool (satO (valD (u.data.toList.take k)))) (fun _ i _ => u.size - (intOf i).toNat)
    case atStart => exact ⟨0, by omega, rfl, rfl, by rw [(sat_start _).1], by rw [(sat_start _).2]⟩
    case round =>
      obtain ⟨k, hk, hA, rfl, rfl, rfl⟩ := hrel
      have HA := Lib.hid hA
      clear hA
      obtain ⟨sb0, sb1⟩ := satN_bounds (valD (u.data.toList.take k))
      by_cases hlt : k < u.size
      · cases hd : isDig u[k] with
        | true =>
          have hb := isDig_bounds hd
          have hb1 : 48 ≤ (u[k].toNat : Int) := by omega
          have hb2 : (u[k].toNat : Int) ≤ 57 := by omega
          have hts := Lib.hid (take_snoc u k hlt)
          have hA' := Lib.hid (show allD (u.data.toList.take (k + 1)) = true by rw [take_snoc u k hlt, allD_snoc, HA.out, hd]; rfl)
          have hv := Lib.hid (show valD (u.data.toList.take (k + 1)) = 10 * valD (u.data.toList.take k) + (u[k].toNat - 48) by rw [take_snoc u k hlt, valD_snoc])
          have hc := Lib.hid (show ((u[k].toNat - 48 : Nat) : Int) = (u[k].toNat : Int) - 48 by omega)
          clear hb
          by_cases hov : 1000000000000 < 10 * satN (valD (u.data.toList.take k)) + ((u[k].toNat : Int) - 48)
          · have hs := Lib.hid (sat_out (valD (u.data.toList.take k)) (u[k].toNat - 48) (by omega) (by rw [hc.out]; exact hov))
            go_wp2_with (go_at_call 41; refine (digit_any _ _).mono ?_; rintro e w' ⟨rfl, rfl⟩)
            go_round
            case rel => exact ⟨k + 1, by omega, hA'.out, by go_num, by rw [hv.out, hs.out.1], by rw [hv.out, hs.out.2]⟩
            case measure => simp [intOf]; omega
          · have hov' : decide (1000000000000 < 10 * satN (valD (u.data.toList.take k)) + ((u[k].toNat : Int) - 48)) = false := decide_eq_false hov
            have hs := Lib.hid (sat_in (valD (u.data.toList.take k)) (u[k].toNat - 48) (by omega) (by rw [hc.out]; omega))
            go_wp2_with (go_at_call 41; refine (digit_any _ _).mono ?_; rintro e w' ⟨rfl, rfl⟩)
            go_round
            case rel => exact ⟨k + 1, by omega, hA'.out, by go_num, by rw [hv.out, hs.out.1, hc.out], by rw [hv.out, hs.out.2]⟩
            case measure => simp [intOf]; omega
        | false =>
          have hh := Lib.hid (head_of u.data.toList k (by simpa using hk) HA.out (Or.inr ⟨by simpa using hlt, hd⟩))
          go_wp2_with (go_at_call 41; refine (digit_any _ _).mono ?_; rintro e w' ⟨rfl, rfl⟩)
          go_meet
          exact ⟨head1_of hh.out rfl rfl rfl, rfl⟩
      · have hh := Lib.hid (head_of u.data.toList k (by simpa using hk) HA.out (Or.inl (by rw [ba_len]; omega)))
        go_wp2_with fail
        go_meet
        exact ⟨head1_of hh.out rfl rfl rfl, rfl⟩
  case rest =>
    obtain ⟨⟨rfl, rfl, rfl⟩, rfl⟩ := hcut
    clear hm0
    obtain ⟨k, hk⟩ : ∃ k, (u.data.toList.takeWhile isDig).length = k := ⟨_, rfl⟩
    rw [hk]
    have HK := Lib.hid (show rparAt true u.data.toList k = (X, E) by rw [← hk]; exact HR.out)
    have hkl : k ≤ u.size := by rw [← hk, ← ba_len]; exact (List.takeWhile_sublist _).length_le
    clear hk HR
    obtain ⟨V, hV⟩ : ∃ V, valD (u.data.toList.take k) = V := ⟨_, rfl⟩
    rw [hV]
    have HV := Lib.hid hV
    clear hV
    obtain ⟨sb0, sb1⟩ := satN_bounds V
    by_cases c0 : k = 0
    · subst c0
      obtain ⟨rfl, rfl⟩ := pair_eq (HK.out.symm.trans (rparAt_zero _ _))
      go_wp2_with fail
      go_ret2
      exact ⟨rfl, rfl⟩
    · have hk0 : ((k : Int) == 0) = false := beq_eq_false_iff_ne.2 (by omega)
      have hk1 : 1 ≤ k := by omega
      by_cases c1 : k < u.size
      · by_cases c2 : (u[k].toNat : Int) = 46
        · have hdot : ((u[k].toNat : Int) != 46) = false := by rw [c2]; rfl
          have hdot2 : u.data.toList[k]? = some 46 := dot_at u k c1 (by omega)
          have HDOT := Lib.hid hdot2
          clear c2 hdot2
          by_cases c3 : k + 1 = u.size
          · have hq : ((k : Int) + 1 == (u.size : Int)) = true := beq_iff_eq.2 (by omega)
            obtain ⟨rfl, rfl⟩ := pair_eq (HK.out.symm.trans (rparAt_bad c0 (by rw [ba_len]; omega) (Or.inr (Or.inl (by rw [ba_len]; exact c3)))))
            clear c3
            go_wp2_with fail
            go_ret2
            exact ⟨rfl, rfl⟩
          · have hq : ((k : Int) + 1 == (u.size : Int)) = false := beq_eq_false_iff_ne.2 (by omega)
            by_cases c4 : 6 < u.size - k - 1
            · have hl6 : decide (6 < (u.size : Int) - (k : Int) - 1) = true := decide_eq_true (by omega)
              obtain ⟨rfl, rfl⟩ := pair_eq (HK.out.symm.trans (rparAt_bad c0 (by rw [ba_len]; omega) (Or.inr (Or.inr (by rw [ba_len]; exact c4)))))
              go_wp2_with fail
              go_ret2
              exact ⟨rfl, rfl⟩
            · have hl6 : decide (6 < (u.size : Int) - (k : Int) - 1) = false := decide_eq_false (by omega)
              have hnb : ¬ (u.data.toList[k]? ≠ some 46 ∨ k + 1 = u.data.toList.length ∨ 6 < u.data.toList.length - k - 1) := by
                rw [ba_len]; rintro (h | h | h)
                · exact h HDOT.out
                · exact c3 h
                · exact c4 h
              have HNB := Lib.hid hnb
              have hm : u.size ≤ k + 7 := by omega
              have hm1 : k + 1 < u.size := by omega
              clear hnb c3 c4
              go_wp2_with fail
              clear hdot hq hl6 hk0
              obtain ⟨D, hD⟩ : ∃ D, u.data.toList.drop (k + 1) = D := ⟨_, rfl⟩
              have HD := Lib.hid hD
              clear hD
              go_loop [5, 6, 8] (fun n i t => ∃ j : Nat, k + 1 + j ≤ u.size ∧ allD (D.take j) = true ∧ i = .int .i64 ((k : Int) + 1 + (j : Int)) ∧ n = .int .i64 (satN V * 1000000 + partN D j) ∧ t = .int .i64 (tenP (6 - j))) (fun _ i _ => u.size - (intOf i).toNat)
              case atStart => exact ⟨0, by omega, rfl, by rw [show (k : Int) + 1 + ((0 : Nat) : Int) = (k : Int) + 1 by omega], by rw [partN_zero, Int.add_zero], by rw [tenP_six]⟩
              case round =>
                obtain ⟨j, hj, hA0, rfl, rfl, rfl⟩ := hrel
                have hA := Lib.hid hA0
                clear hA0
                obtain ⟨f0, f1⟩ := partN_bounds D j (by omega) hA.out
                by_cases hlt : k + 1 + j < u.size
                · cases hd : isDig u[k + 1 + j] with
                  | true =>
                    have hb := isDig_bounds hd
                    have hb1 : 48 ≤ (u[k + 1 + j].toNat : Int) := by omega
                    have hb2 : (u[k + 1 + j].toNat : Int) ≤ 57 := by omega
                    have hA' := Lib.hid (show allD (D.take (j + 1)) = true by rw [← HD.out, drop_snoc u k j hlt, HD.out, allD_snoc, hA.out, hd]; rfl)
                    have hF := partN_succ D j u[k + 1 + j] (by rw [← HD.out]; exact drop_snoc u k j hlt) (by omega) hd
                    rw [five_sub] at hF
                    have HF := Lib.hid hF
                    clear hF
                    have ht := tenP_div j (by omega)
                    rw [five_sub] at ht
                    have ht1 := tenP_pos (6 - j)
                    have ht2 := tenP_six_le j
                    obtain ⟨g0, g1⟩ := tenP_digit j ((u[k + 1 + j].toNat : Int) - 48) (by omega) (by omega)
                    rw [five_sub] at g0 g1
                    clear hb
                    go_wp2_with (go_at_call 41; refine (digit_any _ _).mono ?_; rintro e w' ⟨rfl, rfl⟩)
                    go_round
                    case rel => exact ⟨j + 1, by omega, hA'.out, by rw [show (k : Int) + 1 + ((j + 1 : Nat) : Int) = (k : Int) + 1 + (j : Int) + 1 by omega], by rw [HF.out, Int.add_assoc], by rw [ht, five_sub]⟩
                    case measure => simp [intOf]; omega
                  | false =>
                    have hno : allD (u.data.toList.drop (k + 1)) = false := allD_part (j := j) (by rw [List.length_drop, ba_len]; omega) (by rw [drop_get u k j hlt]; exact hd)
                    obtain ⟨rfl, rfl⟩ := pair_eq (HK.out.symm.trans (rparAt_nopart c0 (by rw [ba_len]; omega) hno))
                    clear hno
                    go_wp2_with (go_at_call 41; refine (digit_any _ _).mono ?_; rintro e w' ⟨rfl, rfl⟩)
                    go_ret2
                    exact ⟨rfl, rfl⟩
                · have hend : D.length = j := by rw [← HD.out, List.length_drop, ba_len]; omega
                  have hall : allD D = true := by
                    have := hA.out
                    rwa [List.take_of_length_le (by omega)] at this
                  have hpn : partN D j = ((valD D * 10 ^ (6 - (u.data.toList.length - (k + 1))) : Nat) : Int) := by
                    unfold partN
                    rw [List.take_of_length_le (by omega), show u.data.toList.length - (k + 1) = j by rw [ba_len]; omega]
                  have hfin := rparAt_part (b := true) c0 (by rw [ba_len]; omega) HNB.out (by rw [HD.out]; exact hall) HV.out
                  rw [HD.out] at hfin
                  generalize valD D * 10 ^ (6 - (u.data.toList.length - (k + 1))) = F at hpn hfin
                  have HPN := Lib.hid hpn
                  clear hend hall hpn
                  have hlt' : decide (k + 1 + j < u.size) = false := decide_eq_false hlt
                  by_cases o1 : 1000000000000 < V
                  · have ho := satO_yes o1
                    obtain ⟨rfl, rfl⟩ := pair_eq (HK.out.symm.trans (hfin.trans (finS_over (by omega))))
                    clear hfin
                    go_wp2_with fail
                    go_ret2
                    exact ⟨rfl, rfl⟩
                  · have ho := satO_no o1
                    have hn := satN_in o1
                    by_cases o2 : 1000000000000000000 < V * 1000000 + F
                    · have hov : decide (1000000000000000000 < (V : Int) * 1000000 + partN D j) = true := decide_eq_true (by rw [HPN.out]; omega)
                      obtain ⟨rfl, rfl⟩ := pair_eq (HK.out.symm.trans (hfin.trans (finS_over o2)))
                      clear hfin
                      go_wp2_with fail
                      go_ret2
                      exact ⟨rfl, rfl⟩
                    · have hov : decide (1000000000000000000 < (V : Int) * 1000000 + partN D j) = false := decide_eq_false (by rw [HPN.out]; omega)
                      obtain ⟨hX, rfl⟩ := pair_eq (HK.out.symm.trans (hfin.trans (finS_in o2)))
                      have HX := Lib.hid hX
                      clear hfin hX
                      go_wp2_with fail
                      go_ret2
                      exact ⟨by rw [HX.out]; exact ret2_int (by simp only [cond_true]; rw [HPN.out]; omega), rfl⟩
        · have hdot : ((u[k].toNat : Int) != 46) = true := by rw [bne_iff_ne]; exact c2
          obtain ⟨rfl, rfl⟩ := pair_eq (HK.out.symm.trans (rparAt_bad c0 (by rw [ba_len]; omega) (Or.inl (fun h => c2 (by have := dot_of u k c1 h; omega)))))
          clear c2
          go_wp2_with fail
          go_ret2
          exact ⟨rfl, rfl⟩
      · have hlt : decide (k < u.size) = false := decide_eq_false c1
        have hfin := rparAt_end (b := true) c0 (by rw [ba_len]; omega) HV.out
        by_cases o1 : 1000000000000 < V
        · have ho := satO_yes o1
          obtain ⟨rfl, rfl⟩ := pair_eq (HK.out.symm.trans (hfin.trans (finS_over (by omega))))
          clear hfin
          go_wp2_with fail
          go_ret2
          exact ⟨rfl, rfl⟩
        · have ho := satO_no o1
          have hn := satN_in o1
          have hov : decide (1000000000000000000 < (V : Int) * 1000000) = false := decide_eq_false (by omega)
          obtain ⟨hX, rfl⟩ := pair_eq (HK.out.symm.trans (hfin.trans (finS_in (by omega))))
          have HX := Lib.hid hX
          clear hfin hX
          go_wp2_with fail
          go_ret2
          exact ⟨by rw [HX.out]; exact ret2_int (by simp only [cond_true]; omega), rfl⟩

set_option maxRecDepth 100000 in
set_option maxHeartbeats 1000000 in
theorem rparse_plain (s : ByteArray) (w : World) (X E : Int) (hR : rparS false s.data.toList = (X, E)) (h0 : s.size ≤ 40) (h1 : 1 ≤ s.size) (hm0 : ((s[0].toNat : Int) == 45) = false) :
    Calls Tryd.prog 26 #[.string s] w fun e w' => e = .returned (.tuple #[.int .i64 X, .int .i64 E]) ∧ w = w' := by
  have HR := Lib.hid hR
  clear hR
  go_enter Tryd.func26, Tryd.ntmps26
  go_upto_block 0 with fail
  go_cut [5, 6, 7] from 23 to 44 (fun n i o wx => Head1 s.data.toList n i o ∧ w = wx)
  case first =>
    go_wp2_with fail
    go_loop [5, 6, 7] (fun n i o => ∃ k : Nat, k ≤ s.size ∧ allD (s.data.toList.take k) = true ∧ i = .int .i64 k ∧ n = .int .i64 (satN (valD (s.data.toList.take k))) ∧ o = .bool (satO (valD (s.data.toList.take k)))) (fun _ i _ => s.size - (intOf i).toNat)
    case atStart => exact ⟨0, by omega, rfl, rfl, by rw [(sat_start _).1], by rw [(sat_start _).2]⟩
    case round =>
      obtain ⟨k, hk, hA, rfl, rfl, rfl⟩ := hrel
      have HA := Lib.hid hA
      clear hA
      obtain ⟨sb0, sb1⟩ := satN_bounds (valD (s.data.toList.take k))
      by_cases hlt : k < s.size
      · cases hd : isDig s[k] with
        | true =>
          have hb := isDig_bounds hd
          have hb1 : 48 ≤ (s[k].toNat : Int) := by omega
          have hb2 : (s[k].toNat : Int) ≤ 57 := by omega
          have hts := Lib.hid (take_snoc s k hlt)
          have hA' := Lib.hid (show allD (s.data.toList.take (k + 1)) = true by rw [take_snoc s k hlt, allD_snoc, HA.out, hd]; rfl)
          have hv := Lib.hid (show valD (s.data.toList.take (k + 1)) = 10 * valD (s.data.toList.take k) + (s[k].toNat - 48) by rw [take_snoc s k hlt, valD_snoc])
          have hc := Lib.hid (show ((s[k].toNat - 48 : Nat) : Int) = (s[k].toNat : Int) - 48 by omega)
          clear hb
          by_cases hov : 1000000000000 < 10 * satN (valD (s.data.toList.take k)) + ((s[k].toNat : Int) - 48)
          · have hs := Lib.hid (sat_out (valD (s.data.toList.take k)) (s[k].toNat - 48) (by omega) (by rw [hc.out]; exact hov))
            go_wp2_with (go_at_call 41; refine (digit_any _ _).mono ?_; rintro e w' ⟨rfl, rfl⟩)
            go_round
            case rel => exact ⟨k + 1, by omega, hA'.out, by go_num, by rw [hv.out, hs.out.1], by rw [hv.out, hs.out.2]⟩
            case measure => simp [intOf]; omega
          · have hov' : decide (1000000000000 < 10 * satN (valD (s.data.toList.take k)) + ((s[k].toNat : Int) - 48)) = false := decide_eq_false hov
            have hs := Lib.hid (sat_in (valD (s.data.toList.take k)) (s[k].toNat - 48) (by omega) (by rw [hc.out]; omega))
            go_wp2_with (go_at_call 41; refine (digit_any _ _).mono ?_; rintro e w' ⟨rfl, rfl⟩)
            go_round
            case rel => exact ⟨k + 1, by omega, hA'.out, by go_num, by rw [hv.out, hs.out.1, hc.out], by rw [hv.out, hs.out.2]⟩
            case measure => simp [intOf]; omega
        | false =>
          have hh := Lib.hid (head_of s.data.toList k (by simpa using hk) HA.out (Or.inr ⟨by simpa using hlt, hd⟩))
          go_wp2_with (go_at_call 41; refine (digit_any _ _).mono ?_; rintro e w' ⟨rfl, rfl⟩)
          go_meet
          exact ⟨head1_of hh.out rfl rfl rfl, rfl⟩
      · have hh := Lib.hid (head_of s.data.toList k (by simpa using hk) HA.out (Or.inl (by rw [ba_len]; omega)))
        go_wp2_with fail
        go_meet
        exact ⟨head1_of hh.out rfl rfl rfl, rfl⟩
  case rest =>
    obtain ⟨⟨rfl, rfl, rfl⟩, rfl⟩ := hcut
    clear hm0
    obtain ⟨k, hk⟩ : ∃ k, (s.data.toList.takeWhile isDig).length = k := ⟨_, rfl⟩
    rw [hk]
    have HK := Lib.hid (show rparAt false s.data.toList k = (X, E) by rw [← hk]; exact HR.out)
    have hkl : k ≤ s.size := by rw [← hk, ← ba_len]; exact (List.takeWhile_sublist _).length_le
    clear hk HR
    obtain ⟨V, hV⟩ : ∃ V, valD (s.data.toList.take k) = V := ⟨_, rfl⟩
    rw [hV]
    have HV := Lib.hid hV
    clear hV
    obtain ⟨sb0, sb1⟩ := satN_bounds V
    by_cases c0 : k = 0
    · subst c0
      obtain ⟨rfl, rfl⟩ := pair_eq (HK.out.symm.trans (rparAt_zero _ _))
      go_wp2_with fail
      go_ret2
      exact ⟨rfl, rfl⟩
    · have hk0 : ((k : Int) == 0) = false := beq_eq_false_iff_ne.2 (by omega)
      have hk1 : 1 ≤ k := by omega
      by_cases c1 : k < s.size
      · by_cases c2 : (s[k].toNat : Int) = 46
        · have hdot : ((s[k].toNat : Int) != 46) = false := by rw [c2]; rfl
          have hdot2 : s.data.toList[k]? = some 46 := dot_at s k c1 (by omega)
          have HDOT := Lib.hid hdot2
          clear c2 hdot2
          by_cases c3 : k + 1 = s.size
          · have hq : ((k : Int) + 1 == (s.size : Int)) = true := beq_iff_eq.2 (by omega)
            obtain ⟨rfl, rfl⟩ := pair_eq (HK.out.symm.trans (rparAt_bad c0 (by rw [ba_len]; omega) (Or.inr (Or.inl (by rw [ba_len]; exact c3)))))
            clear c3
            go_wp2_with fail
            go_ret2
            exact ⟨rfl, rfl⟩
          · have hq : ((k : Int) + 1 == (s.size : Int)) = false := beq_eq_false_iff_ne.2 (by omega)
            by_cases c4 : 6 < s.size - k - 1
            · have hl6 : decide (6 < (s.size : Int) - (k : Int) - 1) = true := decide_eq_true (by omega)
              obtain ⟨rfl, rfl⟩ := pair_eq (HK.out.symm.trans (rparAt_bad c0 (by rw [ba_len]; omega) (Or.inr (Or.inr (by rw [ba_len]; exact c4)))))
              go_wp2_with fail
              go_ret2
              exact ⟨rfl, rfl⟩
            · have hl6 : decide (6 < (s.size : Int) - (k : Int) - 1) = false := decide_eq_false (by omega)
              have hnb : ¬ (s.data.toList[k]? ≠ some 46 ∨ k + 1 = s.data.toList.length ∨ 6 < s.data.toList.length - k - 1) := by
                rw [ba_len]; rintro (h | h | h)
                · exact h HDOT.out
                · exact c3 h
                · exact c4 h
              have HNB := Lib.hid hnb
              have hm : s.size ≤ k + 7 := by omega
              have hm1 : k + 1 < s.size := by omega
              clear hnb c3 c4
              go_wp2_with fail
              clear hdot hq hl6 hk0
              obtain ⟨D, hD⟩ : ∃ D, s.data.toList.drop (k + 1) = D := ⟨_, rfl⟩
              have HD := Lib.hid hD
              clear hD
              go_loop [5, 6, 8] (fun n i t => ∃ j : Nat, k + 1 + j ≤ s.size ∧ allD (D.take j) = true ∧ i = .int .i64 ((k : Int) + 1 + (j : Int)) ∧ n = .int .i64 (satN V * 1000000 + partN D j) ∧ t = .int .i64 (tenP (6 - j))) (fun _ i _ => s.size - (intOf i).toNat)
              case atStart => exact ⟨0, by omega, rfl, by rw [show (k : Int) + 1 + ((0 : Nat) : Int) = (k : Int) + 1 by omega], by rw [partN_zero, Int.add_zero], by rw [tenP_six]⟩
              case round =>
                obtain ⟨j, hj, hA0, rfl, rfl, rfl⟩ := hrel
                have hA := Lib.hid hA0
                clear hA0
                obtain ⟨f0, f1⟩ := partN_bounds D j (by omega) hA.out
                by_cases hlt : k + 1 + j < s.size
                · cases hd : isDig s[k + 1 + j] with
                  | true =>
                    have hb := isDig_bounds hd
                    have hb1 : 48 ≤ (s[k + 1 + j].toNat : Int) := by omega
                    have hb2 : (s[k + 1 + j].toNat : Int) ≤ 57 := by omega
                    have hA' := Lib.hid (show allD (D.take (j + 1)) = true by rw [← HD.out, drop_snoc s k j hlt, HD.out, allD_snoc, hA.out, hd]; rfl)
                    have hF := partN_succ D j s[k + 1 + j] (by rw [← HD.out]; exact drop_snoc s k j hlt) (by omega) hd
                    rw [five_sub] at hF
                    have HF := Lib.hid hF
                    clear hF
                    have ht := tenP_div j (by omega)
                    rw [five_sub] at ht
                    have ht1 := tenP_pos (6 - j)
                    have ht2 := tenP_six_le j
                    obtain ⟨g0, g1⟩ := tenP_digit j ((s[k + 1 + j].toNat : Int) - 48) (by omega) (by omega)
                    rw [five_sub] at g0 g1
                    clear hb
                    go_wp2_with (go_at_call 41; refine (digit_any _ _).mono ?_; rintro e w' ⟨rfl, rfl⟩)
                    go_round
                    case rel => exact ⟨j + 1, by omega, hA'.out, by rw [show (k : Int) + 1 + ((j + 1 : Nat) : Int) = (k : Int) + 1 + (j : Int) + 1 by omega], by rw [HF.out, Int.add_assoc], by rw [ht, five_sub]⟩
                    case measure => simp [intOf]; omega
                  | false =>
                    have hno : allD (s.data.toList.drop (k + 1)) = false := allD_part (j := j) (by rw [List.length_drop, ba_len]; omega) (by rw [drop_get s k j hlt]; exact hd)
                    obtain ⟨rfl, rfl⟩ := pair_eq (HK.out.symm.trans (rparAt_nopart c0 (by rw [ba_len]; omega) hno))
                    clear hno
                    go_wp2_with (go_at_call 41; refine (digit_any _ _).mono ?_; rintro e w' ⟨rfl, rfl⟩)
                    go_ret2
                    exact ⟨rfl, rfl⟩
                · have hend : D.length = j := by rw [← HD.out, List.length_drop, ba_len]; omega
                  have hall : allD D = true := by
                    have := hA.out
                    rwa [List.take_of_length_le (by omega)] at this
                  have hpn : partN D j = ((valD D * 10 ^ (6 - (s.data.toList.length - (k + 1))) : Nat) : Int) := by
                    unfold partN
                    rw [List.take_of_length_le (by omega), show s.data.toList.length - (k + 1) = j by rw [ba_len]; omega]
                  have hfin := rparAt_part (b := false) c0 (by rw [ba_len]; omega) HNB.out (by rw [HD.out]; exact hall) HV.out
                  rw [HD.out] at hfin
                  generalize valD D * 10 ^ (6 - (s.data.toList.length - (k + 1))) = F at hpn hfin
                  have HPN := Lib.hid hpn
                  clear hend hall hpn
                  have hlt' : decide (k + 1 + j < s.size) = false := decide_eq_false hlt
                  by_cases o1 : 1000000000000 < V
                  · have ho := satO_yes o1
                    obtain ⟨rfl, rfl⟩ := pair_eq (HK.out.symm.trans (hfin.trans (finS_over (by omega))))
                    clear hfin
                    go_wp2_with fail
                    go_ret2
                    exact ⟨rfl, rfl⟩
                  · have ho := satO_no o1
                    have hn := satN_in o1
                    by_cases o2 : 1000000000000000000 < V * 1000000 + F
                    · have hov : decide (1000000000000000000 < (V : Int) * 1000000 + partN D j) = true := decide_eq_true (by rw [HPN.out]; omega)
                      obtain ⟨rfl, rfl⟩ := pair_eq (HK.out.symm.trans (hfin.trans (finS_over o2)))
                      clear hfin
                      go_wp2_with fail
                      go_ret2
                      exact ⟨rfl, rfl⟩
                    · have hov : decide (1000000000000000000 < (V : Int) * 1000000 + partN D j) = false := decide_eq_false (by rw [HPN.out]; omega)
                      obtain ⟨hX, rfl⟩ := pair_eq (HK.out.symm.trans (hfin.trans (finS_in o2)))
                      have HX := Lib.hid hX
                      clear hfin hX
                      go_wp2_with fail
                      go_ret2
                      exact ⟨by rw [HX.out]; exact ret2_int (by simp only [cond_false]; rw [HPN.out]; omega), rfl⟩
        · have hdot : ((s[k].toNat : Int) != 46) = true := by rw [bne_iff_ne]; exact c2
          obtain ⟨rfl, rfl⟩ := pair_eq (HK.out.symm.trans (rparAt_bad c0 (by rw [ba_len]; omega) (Or.inl (fun h => c2 (by have := dot_of s k c1 h; omega)))))
          clear c2
          go_wp2_with fail
          go_ret2
          exact ⟨rfl, rfl⟩
      · have hlt : decide (k < s.size) = false := decide_eq_false c1
        have hfin := rparAt_end (b := false) c0 (by rw [ba_len]; omega) HV.out
        by_cases o1 : 1000000000000 < V
        · have ho := satO_yes o1
          obtain ⟨rfl, rfl⟩ := pair_eq (HK.out.symm.trans (hfin.trans (finS_over (by omega))))
          clear hfin
          go_wp2_with fail
          go_ret2
          exact ⟨rfl, rfl⟩
        · have ho := satO_no o1
          have hn := satN_in o1
          have hov : decide (1000000000000000000 < (V : Int) * 1000000) = false := decide_eq_false (by omega)
          obtain ⟨hX, rfl⟩ := pair_eq (HK.out.symm.trans (hfin.trans (finS_in (by omega))))
          have HX := Lib.hid hX
          clear hfin hX
          go_wp2_with fail
          go_ret2
          exact ⟨by rw [HX.out]; exact ret2_int (by simp only [cond_false]; omega), rfl⟩
end Go.Proofs.YtmepocffafcibaaDoor
