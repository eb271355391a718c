/-
  THE LIBRARY's TEXT FUNCTIONS AS num CALLS THEM, EACH OVER ONE WORD ON THE WORLD ('LaidW': the table of powers of ten and the one variable of bytealg's lie as they lie at the start): what each returns; of what was there nothing is turned.
-/
import Derived.Test.YtmepocffafcibaaDoorShelf
import Derived.Test.YtmepocffafcibaaDoorSmall
import Derived.Deep.QuietTactic
import Derived.BigQuiet
import Derived.Lib.Hide
import Derived.Lib.QuietBelow
namespace Go.Proofs.YtmepocffafcibaaDoor
open Go.RowKit Go.Sort

/-- What the walks ask of the world. -/
structure LaidW (w : World) : Prop where
  tab : Lib.TabIs Tryd.prog w "internal/strconv.uint64pow10" .u64 Lib.pow10Tab
  maxLen : ∃ m, w.cell? ⟨2, 0, none⟩ = some (.int .i64 m)
  size : 8 ≤ w.heap.size

theorem gTab : Tryd.prog.globalNamed "internal/strconv.uint64pow10" = some 7 := by kernel_rfl
theorem LaidW.below {w w' : World} (L : LaidW w) (h : Below w.heap.size w w') : LaidW w' := by
  have hs := L.size
  refine ⟨var?_below h gTab (by omega) L.tab, ?_, Nat.le_trans hs h.size⟩
  obtain ⟨m, hm⟩ := L.maxLen
  exact ⟨m, by rw [h.cell (p := ⟨2, 0, none⟩) (by show 2 < _; omega)]; exact hm⟩

theorem below_grow (w : World) (k : Nat) (os : Array Obj) : Below w.heap.size w (grow (w.drewN k) os) :=
  ⟨rfl, rfl, rfl, by simp [grow], fun k hk => by simp [grow, Array.getElem?_append, hk]⟩

theorem itoa_any (n : Int) (w : World) (L : LaidW w) (h0 : -9223372036854775808 ≤ n) (h1 : n ≤ 9223372036854775807) :
    Calls Tryd.prog 42 #[.int .i64 n] w fun e w' => e = .returned (.string ⟨(Lib.itoa n).toArray⟩) ∧ Below w.heap.size w w' :=
  (Tryd.strconv_Itoa n h0 h1 w L.tab).mono fun _ _ ⟨h, k, os, g⟩ => ⟨h, g ▸ below_grow w k os⟩

/-- strings.Repeat of one byte. -/
theorem repeat_any (b : UInt8) (c : Int) (w : World) (h0 : 0 ≤ c) (h1 : c ≤ 1000) :
    Calls Tryd.prog 43 #[.string ⟨#[b]⟩, .int .i64 c] w fun e w' => e = .returned (.string ⟨(List.replicate c.toNat b).toArray⟩) ∧ Below w.heap.size w w' := by
  obtain ⟨k, rfl⟩ := Int.eq_ofNat_of_zero_le h0
  have hr : ∀ k, Lib.repeatL [b] k = List.replicate k b := by
    intro k
    induction k with
    | zero => rfl
    | succ k ih => rw [Lib.repeatL, ih]; rfl
  have h := Tryd.strings_Repeat ⟨#[b]⟩ k w (by omega) (by show 1 * k ≤ _; omega)
  rw [Int.toNat_natCast, ← hr k]
  exact h

theorem quiet_eq {P : Program} {f : FuncId} {args : Array Value} {w : World} {n : Nat} {v : Value}
    (h : Calls P f args (w.drewN n) fun e w' => e = .returned v ∧ w.drewN n = w') : Calls P f args (w.drewN n) fun e w'' => e = .returned v ∧ ∃ m, w'' = w.drewN m :=
  h.mono fun _ _ ⟨he, hm⟩ => ⟨he, n, hm.symm⟩

/-- What Print writes, out of its sign, its whole part's digits and its fraction's. -/
def prtOut (neg : Bool) (wh pt : List UInt8) : List UInt8 := (bif neg then [45] else []) ++ (wh ++ (bif pt.isEmpty then [] else 46 :: pt))
theorem ba_append (a b : List UInt8) : (⟨a.toArray⟩ : ByteArray) ++ ⟨b.toArray⟩ = ⟨(a ++ b).toArray⟩ := by
  apply ByteArray.ext
  simp

set_option maxHeartbeats 400000 in
theorem print_core (n a c : Int) (d z s wh r pt out : List UInt8) (k : Nat) (w : World) (h1 : -1000000000000000000 ≤ n) (h2 : n ≤ 1000000000000000000)
    (ea : max n (-n) = a) (dl : d.length ≤ 20) (hz : z.length ≤ 7) (hc : max 0 (7 - (d.length : Int)) = c) (hs : (⟨z.toArray⟩ ++ ⟨d.toArray⟩ : ByteArray) = ⟨s.toArray⟩) (hk : IntKind.i64.wrap ((s.length : Int) - 6) = (k : Int)) (hk1 : k ≤ s.length) (hx : (⟨s.toArray⟩ : ByteArray).extract 0 k = ⟨wh.toArray⟩) (hy : (⟨s.toArray⟩ : ByteArray).extract k s.length = ⟨r.toArray⟩) (hw : wh.length ≤ 30) (hp : pt.length ≤ 30) (ho : prtOut (decide (n < 0)) wh pt = out)
    (hI : Calls Tryd.prog 42 #[.int .i64 a] w fun e w' => e = .returned (.string ⟨d.toArray⟩) ∧ Below w.heap.size w w')
    (hR : ∀ w, Calls Tryd.prog 43 #[.string ⟨#[48]⟩, .int .i64 c] w fun e w' => e = .returned (.string ⟨z.toArray⟩) ∧ Below w.heap.size w w')
    (hT : ∀ w, Calls Tryd.prog 44 #[.string ⟨r.toArray⟩, .string ⟨#[48]⟩] w fun e w' => e = .returned (.string ⟨pt.toArray⟩) ∧ w = w') :
    Calls Tryd.prog 27 #[.int .i64 n] w fun e w' => e = .returned (.tuple #[.string ⟨out.toArray⟩, .int .i64 0]) ∧ Below w.heap.size w w' := by
  have HI := Lib.hid hI
  have HR := Lib.hid hR
  have HT := Lib.hid hT
  clear hI hR hT
  go_enter Tryd.func27, Tryd.ntmps27
  go_wp2_with (go_at_call 22; refine (fits_yes _ _ h1 h2).mono ?_; rintro e w' ⟨rfl, rfl⟩)
  refine HI.out.mono ?_
  rintro e w1 ⟨rfl, hw1⟩
  have HB1 := Lib.hid hw1
  clear hw1
  go_wp2_with fail
  refine (HR.out _).mono ?_
  rintro e w2 ⟨rfl, hw2⟩
  have HB2 := Lib.hid hw2
  clear hw2
  go_wp2_with fail
  go_quiet ((go_at_call 44; exact quiet_eq (HT.out _)))
  have HO := Lib.hid ho
  have hb := Lib.hid (below_drewN ((HB1.out).trans ((HB2.out).mono HB1.out.size)) nq)
  clear ho HB1 HB2 HI HR HT
  cases hpt : pt.isEmpty with
  | true =>
    have h1' : (!pt.isEmpty) = false := by rw [hpt]; rfl
    by_cases hneg : n < 0
    · go_wp2_with fail
      go_ret2
      refine ⟨?_, hb.out⟩
      rw [← HO.out, decide_eq_true hneg]
      unfold prtOut
      rw [hpt, cond_true, cond_true, List.append_nil]
      exact congrArg (fun x => Ending.returned (.tuple #[.string x, .int .i64 0])) (ba_append [45] wh)
    · have hneg' : decide (n < 0) = false := decide_eq_false hneg
      go_wp2_with fail
      go_ret2
      refine ⟨?_, hb.out⟩
      rw [← HO.out, decide_eq_false (by omega)]
      unfold prtOut
      rw [hpt, cond_true, cond_false, List.append_nil]
      rfl
  | false =>
    have h1' : (!pt.isEmpty) = true := by rw [hpt]; rfl
    by_cases hneg : n < 0
    · go_wp2_with fail
      go_ret2
      refine ⟨?_, hb.out⟩
      rw [← HO.out, decide_eq_true hneg]
      unfold prtOut
      rw [hpt, cond_true, cond_false]
      exact congrArg (fun x => Ending.returned (.tuple #[.string x, .int .i64 0])) (show (⟨[45].toArray⟩ : ByteArray) ++ (⟨wh.toArray⟩ ++ (⟨[46].toArray⟩ ++ ⟨pt.toArray⟩)) = _ by rw [ba_append, ba_append, ba_append]; rfl)
    · have hneg' : decide (n < 0) = false := decide_eq_false hneg
      go_wp2_with fail
      go_ret2
      refine ⟨?_, hb.out⟩
      rw [← HO.out, decide_eq_false (by omega)]
      unfold prtOut
      rw [hpt, cond_false, cond_false]
      exact congrArg (fun x => Ending.returned (.tuple #[.string x, .int .i64 0])) (show (⟨wh.toArray⟩ : ByteArray) ++ (⟨[46].toArray⟩ ++ ⟨pt.toArray⟩) = _ by rw [ba_append, ba_append]; rfl)

theorem nDigits_le : ∀ (k u : Nat), u < 10 ^ (k + 1) → Lib.nDigits u ≤ k + 1
  | 0, u, h => by rw [Lib.nDigits_small (by simpa using h)]; exact Nat.le_refl _
  | k + 1, u, h => by
    by_cases hu : u < 10
    · rw [Lib.nDigits_small hu]; omega
    · rw [Lib.nDigits_big hu]
      have := nDigits_le k (u / 10) (by rw [Nat.pow_succ] at h; omega)
      omega

/-- The digits of a size, at least seven of them. -/
def pad (u : Nat) : List UInt8 := List.replicate (7 - (Lib.decDigits u).length) 48 ++ Lib.decDigits u
theorem pad_length (u : Nat) (h : u ≤ 1000000000000000000) : 7 ≤ (pad u).length ∧ (pad u).length ≤ 19 := by
  have h1 := nDigits_le 18 u (by omega)
  have h2 := Lib.nDigits_pos u
  unfold pad
  rw [List.length_append, List.length_replicate, Lib.decDigits_length]
  omega
/-- What Print tells. -/
def prtS (n : Int) : List UInt8 := bif fitsB n then prtOut (decide (n < 0)) ((pad n.natAbs).take ((pad n.natAbs).length - 6)) (Lib.trimRightB ((pad n.natAbs).drop ((pad n.natAbs).length - 6)) 48) else []
def prtE (n : Int) : Int := bif fitsB n then 0 else 2

theorem trimRightB_length (l : List UInt8) (c : UInt8) : (Lib.trimRightB l c).length ≤ l.length := by
  unfold Lib.trimRightB
  rw [List.length_reverse]
  have := (List.dropWhile_sublist (p := (· == c)) (l := l.reverse)).length_le
  rwa [List.length_reverse] at this

theorem print_any (n : Int) (w : World) (L : LaidW w) :
    Calls Tryd.prog 27 #[.int .i64 n] w fun e w' => e = .returned (.tuple #[.string ⟨(prtS n).toArray⟩, .int .i64 (prtE n)]) ∧ Below w.heap.size w w' := by
  cases ha : fitsB n with
  | false =>
    have e1 : prtS n = [] := by unfold prtS; rw [ha]; rfl
    have e2 : prtE n = 2 := by unfold prtE; rw [ha]; rfl
    rw [e1, e2]
    clear e1 e2 L
    go_enter Tryd.func27, Tryd.ntmps27
    go_wp2_with (go_at_call 22; refine (fits_any _ _).mono ?_; rintro e w' ⟨rfl, rfl⟩)
    go_ret2
    exact ⟨rfl, Below.refl _ _⟩
  | true =>
    obtain ⟨a1, a2⟩ := fitsB_bounds ha
    have hu : n.natAbs ≤ 1000000000000000000 := by omega
    have e1 : prtS n = prtOut (decide (n < 0)) ((pad n.natAbs).take ((pad n.natAbs).length - 6)) (Lib.trimRightB ((pad n.natAbs).drop ((pad n.natAbs).length - 6)) 48) := by unfold prtS; rw [ha]; rfl
    have e2 : prtE n = 0 := by unfold prtE; rw [ha]; rfl
    rw [e1, e2]
    obtain ⟨p1, p2⟩ := pad_length n.natAbs hu
    have dl : (Lib.decDigits n.natAbs).length ≤ 20 := by
      have h1 := nDigits_le 18 n.natAbs (by omega)
      rw [Lib.decDigits_length]; omega
    have hwl : ((pad n.natAbs).take ((pad n.natAbs).length - 6)).length ≤ 30 := by rw [List.length_take]; omega
    have hpl : (Lib.trimRightB ((pad n.natAbs).drop ((pad n.natAbs).length - 6)) 48).length ≤ 30 := by
      have := trimRightB_length ((pad n.natAbs).drop ((pad n.natAbs).length - 6)) 48
      rw [List.length_drop] at this; omega
    refine print_core n (n.natAbs : Int) (max 0 (7 - ((Lib.decDigits n.natAbs).length : Int))) (Lib.decDigits n.natAbs) (List.replicate (7 - (Lib.decDigits n.natAbs).length) 48) (pad n.natAbs) _ ((pad n.natAbs).drop ((pad n.natAbs).length - 6)) _ _ ((pad n.natAbs).length - 6) w a1 a2 (by omega) dl (by rw [List.length_replicate]; omega) rfl (ba_append _ _) ?_ (by omega) ?_ ?_ hwl hpl rfl ?_ ?_ ?_
    · have e : ((pad n.natAbs).length : Int) - 6 = (((pad n.natAbs).length - 6 : Nat) : Int) := by omega
      rw [e]
      exact IntWalk.i64_in _ (by omega)
    · rw [Lib.extract_mk]; rfl
    · rw [Lib.extract_mk, List.take_of_length_le (by rw [List.length_drop]; omega)]
    · have h := itoa_any (n.natAbs : Int) w L (by omega) (by omega)
      rw [Lib.itoa_nonneg] at h
      exact h
    · intro w
      have h := repeat_any 48 (max 0 (7 - ((Lib.decDigits n.natAbs).length : Int))) w (by omega) (by omega)
      rw [show (max 0 (7 - ((Lib.decDigits n.natAbs).length : Int))).toNat = 7 - (Lib.decDigits n.natAbs).length by omega] at h
      exact h
    · intro w
      exact (Tryd.strings_TrimRight_one ⟨((pad n.natAbs).drop ((pad n.natAbs).length - 6)).toArray⟩ 48 (by decide) w (by rw [Lib.size_mk, List.length_drop]; omega)).mono fun _ _ ⟨h, g⟩ => ⟨h, g.symm⟩
end Go.Proofs.YtmepocffafcibaaDoor
