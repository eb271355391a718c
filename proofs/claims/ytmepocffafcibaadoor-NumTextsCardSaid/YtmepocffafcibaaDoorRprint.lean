/-
  Print OF THE REFERENCE: THE WALK: it returns what num's Print returns ('prtS', 'prtE'); of what was there nothing is turned.
-/
import Derived.Test.YtmepocffafcibaaDoorDigits
import Derived.Test.YtmepocffafcibaaDoorRounds
import Derived.Deep.CutBlock
import Derived.Deep.CutRange
namespace Go.Proofs.YtmepocffafcibaaDoor
open Go.RowKit

/-- The text of a slot. -/
def strOf : Value → ByteArray
  | .string s => s
  | _ => ⟨#[]⟩

theorem ba_len' (s : ByteArray) : s.data.toList.length = s.size := by simp
theorem ba_of_list {s : ByteArray} {l : List UInt8} (h : s.data.toList = l) : s = ⟨l.toArray⟩ := by
  subst h; apply ByteArray.ext; simp
theorem ba_last (s : ByteArray) (h : 0 < s.size) : s.data.toList[s.size - 1]? = some s[s.size - 1] := by
  rw [List.getElem?_eq_getElem (by rw [ba_len']; omega)]
  simp; rfl
theorem trim_snoc (l : List UInt8) : Lib.trimRightB (l ++ [48]) 48 = Lib.trimRightB l 48 := by
  unfold Lib.trimRightB
  rw [List.reverse_append, List.reverse_singleton, List.singleton_append, List.dropWhile_cons, if_pos (by decide)]
theorem trim_last (s : ByteArray) (h : 0 < s.size) (hc : ((s[s.size - 1].toNat : Int) == 48) = true) :
    Lib.trimRightB (s.extract 0 (s.size - 1)).data.toList 48 = Lib.trimRightB s.data.toList 48 ∧ (s.extract 0 (s.size - 1)).size = s.size - 1 := by
  have hc1 : (s[s.size - 1].toNat : Int) = 48 := eq_of_beq hc
  have hc2 : s[s.size - 1] = 48 := UInt8.toNat_inj.1 (by show _ = 48; omega)
  have hl := ba_last s h
  rw [hc2] at hl
  have hd : s.data.toList.drop (s.size - 1) = [48] := by
    rw [List.drop_eq_getElem_cons (by rw [ba_len']; omega), List.drop_of_length_le (by rw [ba_len']; omega)]
    rw [List.getElem?_eq_getElem (by rw [ba_len']; omega)] at hl
    rw [Option.some.inj hl]
  have he : (s.extract 0 (s.size - 1)).data.toList = s.data.toList.take (s.size - 1) := by
    simp
    rw [List.dropLast_eq_take, ba_len']
  constructor
  · rw [he]
    conv => rhs; rw [← List.take_append_drop (s.size - 1) s.data.toList, hd]
    rw [trim_snoc]
  · rw [← ba_len', he, List.length_take, ba_len']; omega
theorem trim_stop (s : ByteArray) (h : 0 < s.size) (hc : ((s[s.size - 1].toNat : Int) == 48) = false) : Lib.trimRightB s.data.toList 48 = s.data.toList := by
  have hc1 : (s[s.size - 1].toNat : Int) ≠ 48 := by
    intro e; rw [e] at hc; cases hc
  have hl := ba_last s h
  rw [Lib.trimRightB_take s.data.toList 48 s.size (by rw [ba_len']; omega) ?_ ?_, List.take_of_length_le (by rw [ba_len']; omega)]
  · intro j b hj hb
    rw [List.getElem?_eq_none (by rw [ba_len']; omega)] at hb; cases hb
  · intro b _ hb
    rw [hl] at hb
    rw [← Option.some.inj hb]
    intro e
    rw [e] at hc1
    exact hc1 rfl
theorem trim_none (s : ByteArray) (h : ¬ 0 < s.size) : Lib.trimRightB s.data.toList 48 = s.data.toList := by
  have e : s.data.toList = [] := List.eq_nil_of_length_eq_zero (by rw [ba_len']; omega)
  rw [e]; rfl

set_option maxRecDepth 100000 in
set_option maxHeartbeats 1000000 in
theorem rprint_neg (n a : Int) (d g pt out : List UInt8) (f : ByteArray) (w : World) (h1 : -1000000000000000000 ≤ n) (h2 : n ≤ 1000000000000000000)
    (ea : (n.natAbs : Int) = a) (dl : d.length ≤ 20) (gl : g.length = 7) (hf : (⟨g.toArray⟩ : ByteArray).extract 1 7 = f) (hfs : f.size = 6) (hpt : Lib.trimRightB f.data.toList 48 = pt) (hpl : pt.length ≤ 6)
    (ho : prtOut true d pt = out) (hneg : n < 0)
    (hS : ∀ w, Calls Tryd.prog 34 #[.int .i64 n] w fun e w' => e = .returned (.int .i64 a) ∧ w = w')
    (hD : ∀ w, Calls Tryd.prog 45 #[.int .i64 (a / 1000000)] w fun e w' => e = .returned (.string ⟨d.toArray⟩) ∧ Below w.heap.size w w')
    (hG : ∀ w, Calls Tryd.prog 45 #[.int .i64 (1000000 + a % 1000000)] w fun e w' => e = .returned (.string ⟨g.toArray⟩) ∧ Below w.heap.size w w') :
    Calls Tryd.prog 28 #[.int .i64 n] w fun e w' => e = .returned (.tuple #[.string ⟨out.toArray⟩, .int .i64 0]) ∧ Below w.heap.size w w' := by
  have HS := Lib.hid hS
  have HD := Lib.hid hD
  have HG := Lib.hid hG
  have HO := Lib.hid ho
  have HF := Lib.hid hf
  have HP := Lib.hid hpt
  clear hS hD hG ho hf hpt
  have ha0 : 0 ≤ a := by omega
  have ha1 : a ≤ 1000000000000000000 := by omega
  clear ea
  go_enter Tryd.func28, Tryd.ntmps28
  go_wp2_with (first | (go_at_call 23; refine (rfits_yes _ _ h1 h2).mono ?_; rintro e w' ⟨rfl, rfl⟩) | (go_at_call 34; refine (HS.out _).mono ?_; rintro e w' ⟨rfl, rfl⟩))
  refine (HD.out _).mono ?_
  rintro e w1 ⟨rfl, h⟩
  have B1 := Lib.hid h
  clear h
  go_wp2_with (first | (go_at_call 34; refine (HS.out _).mono ?_; rintro e w' ⟨rfl, rfl⟩))
  refine (HG.out _).mono ?_
  rintro e w2 ⟨rfl, h⟩
  have B2 := Lib.hid (B1.out.trans (h.mono B1.out.size))
  clear h
  go_upto_block 0 with fail
  rw [HF.out]
  go_cut [5] from 23 to 38 (fun t wx => t = .string ⟨pt.toArray⟩ ∧ w2 = wx)
  case first =>
    go_wp2_with fail
    go_loop [5] (fun t => ∃ s : ByteArray, s.size ≤ 6 ∧ Lib.trimRightB s.data.toList 48 = pt ∧ t = .string s) (fun t => (strOf t).size)
    case atStart => exact ⟨f, by omega, HP.out, rfl⟩
    case round =>
      obtain ⟨s, hk, hp, rfl⟩ := hrel
      have Hp := Lib.hid hp
      clear hp
      by_cases h0 : 0 < s.size
      · cases hc : ((s[s.size - 1].toNat : Int) == 48) with
        | true =>
          have HT := Lib.hid (trim_last s h0 hc)
          go_wp2_with fail
          go_round
          case rel => exact ⟨s.extract 0 (s.size - 1), by rw [HT.out.2]; omega, by rw [HT.out.1]; exact Hp.out, rfl⟩
          case measure => simp [strOf]; omega
        | false =>
          have HT := Lib.hid (ba_of_list ((trim_stop s h0 hc).symm.trans Hp.out))
          go_wp2_with fail
          go_meet
          exact ⟨congrArg Value.string HT.out, rfl⟩
      · have HT := Lib.hid (ba_of_list ((trim_none s h0).symm.trans Hp.out))
        go_wp2_with fail
        go_meet
        exact ⟨congrArg Value.string HT.out, rfl⟩
  case rest =>
    obtain ⟨rfl, rfl⟩ := hcut
    clear hfs HF HP
    cases hpt : pt.isEmpty with
    | true =>
      go_wp2_with fail
      go_ret2
      refine ⟨?_, B2.out⟩
      rw [← HO.out]
      unfold prtOut
      rw [hpt, cond_true, cond_true, List.append_nil]
      exact congrArg (fun x => Ending.returned (.tuple #[.string x, .int .i64 0])) (ba_append [45] d)
    | false =>
      go_wp2_with fail
      go_ret2
      refine ⟨?_, B2.out⟩
      rw [← HO.out]
      unfold prtOut
      rw [hpt, cond_true, cond_false]
      refine congrArg (fun x => Ending.returned (.tuple #[.string x, .int .i64 0])) ?_
      show ((⟨[45].toArray⟩ : ByteArray) ++ ⟨d.toArray⟩) ++ ⟨[46].toArray⟩ ++ ⟨pt.toArray⟩ = _
      rw [ba_append, ba_append, ba_append, List.append_assoc, List.append_assoc]; rfl

set_option maxRecDepth 100000 in
set_option maxHeartbeats 1000000 in
theorem rprint_pos (n a : Int) (d g pt out : List UInt8) (f : ByteArray) (w : World) (h1 : -1000000000000000000 ≤ n) (h2 : n ≤ 1000000000000000000)
    (ea : (n.natAbs : Int) = a) (dl : d.length ≤ 20) (gl : g.length = 7) (hf : (⟨g.toArray⟩ : ByteArray).extract 1 7 = f) (hfs : f.size = 6) (hpt : Lib.trimRightB f.data.toList 48 = pt) (hpl : pt.length ≤ 6)
    (ho : prtOut false d pt = out) (hneg : ¬ n < 0)
    (hS : ∀ w, Calls Tryd.prog 34 #[.int .i64 n] w fun e w' => e = .returned (.int .i64 a) ∧ w = w')
    (hD : ∀ w, Calls Tryd.prog 45 #[.int .i64 (a / 1000000)] w fun e w' => e = .returned (.string ⟨d.toArray⟩) ∧ Below w.heap.size w w')
    (hG : ∀ w, Calls Tryd.prog 45 #[.int .i64 (1000000 + a % 1000000)] w fun e w' => e = .returned (.string ⟨g.toArray⟩) ∧ Below w.heap.size w w') :
    Calls Tryd.prog 28 #[.int .i64 n] w fun e w' => e = .returned (.tuple #[.string ⟨out.toArray⟩, .int .i64 0]) ∧ Below w.heap.size w w' := by
  have HS := Lib.hid hS
  have HD := Lib.hid hD
  have HG := Lib.hid hG
  have HO := Lib.hid ho
  have HF := Lib.hid hf
  have HP := Lib.hid hpt
  clear hS hD hG ho hf hpt
  have ha0 : 0 ≤ a := by omega
  have ha1 : a ≤ 1000000000000000000 := by omega
  clear ea
  have hneg' : decide (n < 0) = false := decide_eq_false hneg
  go_enter Tryd.func28, Tryd.ntmps28
  go_wp2_with (first | (go_at_call 23; refine (rfits_yes _ _ h1 h2).mono ?_; rintro e w' ⟨rfl, rfl⟩) | (go_at_call 34; refine (HS.out _).mono ?_; rintro e w' ⟨rfl, rfl⟩))
  refine (HD.out _).mono ?_
  rintro e w1 ⟨rfl, h⟩
  have B1 := Lib.hid h
  clear h
  go_wp2_with (first | (go_at_call 34; refine (HS.out _).mono ?_; rintro e w' ⟨rfl, rfl⟩))
  refine (HG.out _).mono ?_
  rintro e w2 ⟨rfl, h⟩
  have B2 := Lib.hid (B1.out.trans (h.mono B1.out.size))
  clear h
  go_upto_block 0 with fail
  rw [HF.out]
  go_cut [5] from 23 to 38 (fun t wx => t = .string ⟨pt.toArray⟩ ∧ w2 = wx)
  case first =>
    go_wp2_with fail
    go_loop [5] (fun t => ∃ s : ByteArray, s.size ≤ 6 ∧ Lib.trimRightB s.data.toList 48 = pt ∧ t = .string s) (fun t => (strOf t).size)
    case atStart => exact ⟨f, by omega, HP.out, rfl⟩
    case round =>
      obtain ⟨s, hk, hp, rfl⟩ := hrel
      have Hp := Lib.hid hp
      clear hp
      by_cases h0 : 0 < s.size
      · cases hc : ((s[s.size - 1].toNat : Int) == 48) with
        | true =>
          have HT := Lib.hid (trim_last s h0 hc)
          go_wp2_with fail
          go_round
          case rel => exact ⟨s.extract 0 (s.size - 1), by rw [HT.out.2]; omega, by rw [HT.out.1]; exact Hp.out, rfl⟩
          case measure => simp [strOf]; omega
        | false =>
          have HT := Lib.hid (ba_of_list ((trim_stop s h0 hc).symm.trans Hp.out))
          go_wp2_with fail
          go_meet
          exact ⟨congrArg Value.string HT.out, rfl⟩
      · have HT := Lib.hid (ba_of_list ((trim_none s h0).symm.trans Hp.out))
        go_wp2_with fail
        go_meet
        exact ⟨congrArg Value.string HT.out, rfl⟩
  case rest =>
    obtain ⟨rfl, rfl⟩ := hcut
    clear hfs HF HP
    cases hpt : pt.isEmpty with
    | true =>
      go_wp2_with fail
      go_ret2
      refine ⟨?_, B2.out⟩
      rw [← HO.out]
      unfold prtOut
      rw [hpt, cond_true, cond_false, List.append_nil]
      exact congrArg (fun x => Ending.returned (.tuple #[.string x, .int .i64 0])) (ba_append [] d)
    | false =>
      go_wp2_with fail
      go_ret2
      refine ⟨?_, B2.out⟩
      rw [← HO.out]
      unfold prtOut
      rw [hpt, cond_false, cond_false]
      refine congrArg (fun x => Ending.returned (.tuple #[.string x, .int .i64 0])) ?_
      show ((⟨[].toArray⟩ : ByteArray) ++ ⟨d.toArray⟩) ++ ⟨[46].toArray⟩ ++ ⟨pt.toArray⟩ = _
      rw [ba_append, ba_append, ba_append, List.append_assoc, List.append_assoc]; rfl
end Go.Proofs.YtmepocffafcibaaDoor
