/-
  num.digits AND num.Parse: THE WALKS: what each call returns, out of what the library's functions tell; of what was there nothing is turned.
-/
import Derived.Test.YtmepocffafcibaaDoorText
import Derived.Lib.SlTrimSet
namespace Go.Proofs.YtmepocffafcibaaDoor
open Go.RowKit

/-! ### digits -/
def isDig (c : UInt8) : Bool := decide (48 ≤ c.toNat) && decide (c.toNat ≤ 57)
def allD (l : List UInt8) : Bool := l.all isDig
def digB (l : List UInt8) : Bool := !l.isEmpty && allD l
def tenDigits : List UInt8 := [48, 49, 50, 51, 52, 53, 54, 55, 56, 57]
theorem ten_contains : ∀ c : UInt8, tenDigits.contains c = isDig c := by
  intro c
  have h : ∀ n : Fin 256, tenDigits.contains (UInt8.ofNat n.val) = isDig (UInt8.ofNat n.val) := by decide +kernel
  have := h ⟨c.toNat, UInt8.toNat_lt c⟩
  simpa using this
theorem dropWhile_nil {α : Type} (p : α → Bool) (l : List α) : (l.dropWhile p).isEmpty = l.all p := by
  induction l with
  | nil => rfl
  | cons x r ih =>
    rw [List.dropWhile_cons, List.all_cons]
    cases h : p x with
    | true => simp only [if_true, Bool.true_and]; exact ih
    | false => simp
theorem dropWhile_all {α : Type} (p : α → Bool) (l : List α) : (l.dropWhile p).all p = l.all p := by
  induction l with
  | nil => rfl
  | cons x r ih =>
    rw [List.dropWhile_cons]
    cases h : p x with
    | true => rw [if_pos rfl, ih, List.all_cons, h, Bool.true_and]
    | false => rw [if_neg (by simp)]
theorem trimS_nil (l : List UInt8) : (Lib.trimS l tenDigits).isEmpty = allD l := by
  have e : (fun x => tenDigits.contains x) = isDig := funext ten_contains
  unfold Lib.trimS Lib.trimLeftS Lib.trimRightS allD
  rw [e, dropWhile_nil, List.all_reverse, dropWhile_all, List.all_reverse]

theorem digits_core (l T : List UInt8) (w : World) (hl : l.isEmpty = false)
    (hT : ∀ w, Calls Tryd.prog 51 #[.string ⟨l.toArray⟩, .string ⟨#[48, 49, 50, 51, 52, 53, 54, 55, 56, 57]⟩] w fun e w' => e = .returned (.string ⟨T.toArray⟩) ∧ Below w.heap.size w w') :
    Calls Tryd.prog 38 #[.string ⟨l.toArray⟩] w fun e w' => e = .returned (.bool T.isEmpty) ∧ Below w.heap.size w w' := by
  have HT := Lib.hid hT
  have hl1 : (!l.isEmpty) = true := by rw [hl]; rfl
  clear hT
  cases hTe : T.isEmpty with
  | true =>
    go_enter Tryd.func38, Tryd.ntmps38
    go_wp2_with fail
    refine (HT.out _).mono ?_
    rintro e w1 ⟨rfl, h1⟩
    have B1 := Lib.hid h1
    clear h1
    go_wp2_with fail
    go_ret
    exact ⟨rfl, B1.out⟩
  | false =>
    go_enter Tryd.func38, Tryd.ntmps38
    go_wp2_with fail
    refine (HT.out _).mono ?_
    rintro e w1 ⟨rfl, h1⟩
    have B1 := Lib.hid h1
    clear h1
    go_wp2_with fail
    go_ret
    exact ⟨rfl, B1.out⟩
theorem digits_any (l : List UInt8) (w : World) (hl : l.length ≤ 1000) :
    Calls Tryd.prog 38 #[.string ⟨l.toArray⟩] w fun e w' => e = .returned (.bool (digB l)) ∧ Below w.heap.size w w' := by
  cases he : l.isEmpty with
  | true =>
    have hl0 : l = [] := List.isEmpty_iff.1 he
    subst hl0
    have e : digB [] = false := rfl
    rw [e]
    go_enter Tryd.func38, Tryd.ntmps38
    go_wp2_with fail
    go_ret
    exact ⟨rfl, Below.refl _ _⟩
  | false =>
    have e : digB l = (Lib.trimS l tenDigits).isEmpty := by rw [trimS_nil]; unfold digB; rw [he]; rfl
    rw [e]
    refine digits_core l _ w he fun w => ?_
    exact Any.strings_Trim_laid Tryd.lays160 (by kernel_rfl) ⟨l.toArray⟩ ⟨#[48, 49, 50, 51, 52, 53, 54, 55, 56, 57]⟩ w (by rw [Lib.size_mk]; omega) (by decide) (ascii_of_all (by decide))

/-! ### Parse -/
theorem parse_long (l : List UInt8) (w : World) (hl : 40 < (l.length : Int)) :
    Calls Tryd.prog 25 #[.string ⟨l.toArray⟩] w fun e w' => e = .returned (.tuple #[.int .i64 0, .int .i64 5]) ∧ Below w.heap.size w w' := by
  go_enter Tryd.func25, Tryd.ntmps25
  go_wp2_with fail
  go_ret2
  exact ⟨rfl, Below.refl _ _⟩

set_option maxHeartbeats 400000 in
theorem parse_s1 (l t wh pt : List UInt8) (w : World) (L : LaidW w) (hl : l.length ≤ 40)
    (more : Bool)
    (minus : Bool) (hCP : ∀ w, Calls Tryd.prog 36 #[.string ⟨l.toArray⟩, .string ⟨#[45]⟩] w fun e w' => e = .returned (.tuple #[.string ⟨t.toArray⟩, .bool minus]) ∧ w = w')
    (hC : ∀ w, LaidW w → Calls Tryd.prog 37 #[.string ⟨t.toArray⟩, .string ⟨#[46]⟩] w fun e w' => e = .returned (.tuple #[.string ⟨wh.toArray⟩, .string ⟨pt.toArray⟩, .bool more]) ∧ ∃ n, w.drewN n = w')
    (hD1 : ∀ w, Calls Tryd.prog 38 #[.string ⟨wh.toArray⟩] w fun e w' => e = .returned (.bool false) ∧ Below w.heap.size w w') :
    Calls Tryd.prog 25 #[.string ⟨l.toArray⟩] w fun e w' => e = .returned (.tuple #[.int .i64 0, .int .i64 5]) ∧ Below w.heap.size w w' := by
  have HL := Lib.hid L
  have hl0 : decide (40 < (l.length : Int)) = false := decide_eq_false (by omega)
  have HCP := Lib.hid hCP
  have HC := Lib.hid hC
  have HD1 := Lib.hid hD1
  clear L hCP hC hD1
  go_enter Tryd.func25, Tryd.ntmps25
  go_wp2_with fail
  refine (HCP.out _).mono ?_
  rintro e w1 ⟨rfl, rfl⟩
  go_wp2_with fail
  refine (HC.out _ HL.out).mono ?_
  rintro e w2 ⟨rfl, k, rfl⟩
  have B2 := Lib.hid (below_drewN (Below.refl w.heap.size w) k)
  go_wp2_with fail
  refine (HD1.out _).mono ?_
  rintro e w3 ⟨rfl, h3'⟩
  have B3 := Lib.hid (B2.out.trans (h3'.mono B2.out.size))
  clear h3' B2
  go_wp2_with fail
  go_ret2
  exact ⟨rfl, B3.out⟩

set_option maxHeartbeats 400000 in
theorem parse_s2 (l t wh pt : List UInt8) (w : World) (L : LaidW w) (hl : l.length ≤ 40)
    (minus : Bool) (hCP : ∀ w, Calls Tryd.prog 36 #[.string ⟨l.toArray⟩, .string ⟨#[45]⟩] w fun e w' => e = .returned (.tuple #[.string ⟨t.toArray⟩, .bool minus]) ∧ w = w')
    (hC : ∀ w, LaidW w → Calls Tryd.prog 37 #[.string ⟨t.toArray⟩, .string ⟨#[46]⟩] w fun e w' => e = .returned (.tuple #[.string ⟨wh.toArray⟩, .string ⟨pt.toArray⟩, .bool true]) ∧ ∃ n, w.drewN n = w')
    (hD1 : ∀ w, Calls Tryd.prog 38 #[.string ⟨wh.toArray⟩] w fun e w' => e = .returned (.bool true) ∧ Below w.heap.size w w')
    (hD2 : ∀ w, Calls Tryd.prog 38 #[.string ⟨pt.toArray⟩] w fun e w' => e = .returned (.bool false) ∧ Below w.heap.size w w') :
    Calls Tryd.prog 25 #[.string ⟨l.toArray⟩] w fun e w' => e = .returned (.tuple #[.int .i64 0, .int .i64 5]) ∧ Below w.heap.size w w' := by
  have HL := Lib.hid L
  have hl0 : decide (40 < (l.length : Int)) = false := decide_eq_false (by omega)
  have HCP := Lib.hid hCP
  have HC := Lib.hid hC
  have HD1 := Lib.hid hD1
  have HD2 := Lib.hid hD2
  clear L hCP hC hD1 hD2
  go_enter Tryd.func25, Tryd.ntmps25
  go_wp2_with fail
  refine (HCP.out _).mono ?_
  rintro e w1 ⟨rfl, rfl⟩
  go_wp2_with fail
  refine (HC.out _ HL.out).mono ?_
  rintro e w2 ⟨rfl, k, rfl⟩
  have B2 := Lib.hid (below_drewN (Below.refl w.heap.size w) k)
  go_wp2_with fail
  refine (HD1.out _).mono ?_
  rintro e w3 ⟨rfl, h3'⟩
  have B3 := Lib.hid (B2.out.trans (h3'.mono B2.out.size))
  clear h3' B2
  go_wp2_with fail
  refine (HD2.out _).mono ?_
  rintro e w4 ⟨rfl, h4'⟩
  have B4 := Lib.hid (B3.out.trans (h4'.mono B3.out.size))
  clear h4' B3
  go_wp2_with fail
  go_ret2
  exact ⟨rfl, B4.out⟩

set_option maxHeartbeats 400000 in
theorem parse_s3 (l t wh pt : List UInt8) (w : World) (L : LaidW w) (hl : l.length ≤ 40)
    (minus : Bool) (hCP : ∀ w, Calls Tryd.prog 36 #[.string ⟨l.toArray⟩, .string ⟨#[45]⟩] w fun e w' => e = .returned (.tuple #[.string ⟨t.toArray⟩, .bool minus]) ∧ w = w')
    (hC : ∀ w, LaidW w → Calls Tryd.prog 37 #[.string ⟨t.toArray⟩, .string ⟨#[46]⟩] w fun e w' => e = .returned (.tuple #[.string ⟨wh.toArray⟩, .string ⟨pt.toArray⟩, .bool true]) ∧ ∃ n, w.drewN n = w')
    (hD1 : ∀ w, Calls Tryd.prog 38 #[.string ⟨wh.toArray⟩] w fun e w' => e = .returned (.bool true) ∧ Below w.heap.size w w')
    (hD2 : ∀ w, Calls Tryd.prog 38 #[.string ⟨pt.toArray⟩] w fun e w' => e = .returned (.bool true) ∧ Below w.heap.size w w')
    (hp : 6 < (pt.length : Int)) :
    Calls Tryd.prog 25 #[.string ⟨l.toArray⟩] w fun e w' => e = .returned (.tuple #[.int .i64 0, .int .i64 5]) ∧ Below w.heap.size w w' := by
  have HL := Lib.hid L
  have hl0 : decide (40 < (l.length : Int)) = false := decide_eq_false (by omega)
  have HCP := Lib.hid hCP
  have HC := Lib.hid hC
  have HD1 := Lib.hid hD1
  have HD2 := Lib.hid hD2
  clear L hCP hC hD1 hD2
  go_enter Tryd.func25, Tryd.ntmps25
  go_wp2_with fail
  refine (HCP.out _).mono ?_
  rintro e w1 ⟨rfl, rfl⟩
  go_wp2_with fail
  refine (HC.out _ HL.out).mono ?_
  rintro e w2 ⟨rfl, k, rfl⟩
  have B2 := Lib.hid (below_drewN (Below.refl w.heap.size w) k)
  go_wp2_with fail
  refine (HD1.out _).mono ?_
  rintro e w3 ⟨rfl, h3'⟩
  have B3 := Lib.hid (B2.out.trans (h3'.mono B2.out.size))
  clear h3' B2
  go_wp2_with fail
  refine (HD2.out _).mono ?_
  rintro e w4 ⟨rfl, h4'⟩
  have B4 := Lib.hid (B3.out.trans (h4'.mono B3.out.size))
  clear h4' B3
  go_wp2_with fail
  go_ret2
  exact ⟨rfl, B4.out⟩

set_option maxHeartbeats 400000 in
theorem parse_1o1 (l t wh pt wz : List UInt8) (w : World) (L : LaidW w) (hl : l.length ≤ 40)
    (minus : Bool) (hCP : ∀ w, Calls Tryd.prog 36 #[.string ⟨l.toArray⟩, .string ⟨#[45]⟩] w fun e w' => e = .returned (.tuple #[.string ⟨t.toArray⟩, .bool minus]) ∧ w = w')
    (hC : ∀ w, LaidW w → Calls Tryd.prog 37 #[.string ⟨t.toArray⟩, .string ⟨#[46]⟩] w fun e w' => e = .returned (.tuple #[.string ⟨wh.toArray⟩, .string ⟨pt.toArray⟩, .bool true]) ∧ ∃ n, w.drewN n = w')
    (hD1 : ∀ w, Calls Tryd.prog 38 #[.string ⟨wh.toArray⟩] w fun e w' => e = .returned (.bool true) ∧ Below w.heap.size w w')
    (hD2 : ∀ w, Calls Tryd.prog 38 #[.string ⟨pt.toArray⟩] w fun e w' => e = .returned (.bool true) ∧ Below w.heap.size w w')
    (hp : pt.length ≤ 6)
    (hTL : ∀ w, Calls Tryd.prog 39 #[.string ⟨wh.toArray⟩, .string ⟨#[48]⟩] w fun e w' => e = .returned (.string ⟨wz.toArray⟩) ∧ w = w')
    (hz : 13 < (wz.length : Int)) :
    Calls Tryd.prog 25 #[.string ⟨l.toArray⟩] w fun e w' => e = .returned (.tuple #[.int .i64 0, .int .i64 3]) ∧ Below w.heap.size w w' := by
  have HL := Lib.hid L
  have hl0 : decide (40 < (l.length : Int)) = false := decide_eq_false (by omega)
  have HCP := Lib.hid hCP
  have HC := Lib.hid hC
  have HD1 := Lib.hid hD1
  have HD2 := Lib.hid hD2
  have hp0 : decide (6 < (pt.length : Int)) = false := decide_eq_false (by omega)
  have HTL := Lib.hid hTL
  clear L hCP hC hD1 hD2 hTL
  go_enter Tryd.func25, Tryd.ntmps25
  go_wp2_with fail
  refine (HCP.out _).mono ?_
  rintro e w1 ⟨rfl, rfl⟩
  go_wp2_with fail
  refine (HC.out _ HL.out).mono ?_
  rintro e w2 ⟨rfl, k, rfl⟩
  have B2 := Lib.hid (below_drewN (Below.refl w.heap.size w) k)
  go_wp2_with fail
  refine (HD1.out _).mono ?_
  rintro e w3 ⟨rfl, h3'⟩
  have B3 := Lib.hid (B2.out.trans (h3'.mono B2.out.size))
  clear h3' B2
  go_wp2_with fail
  refine (HD2.out _).mono ?_
  rintro e w4 ⟨rfl, h4'⟩
  have B4 := Lib.hid (B3.out.trans (h4'.mono B3.out.size))
  clear h4' B3
  go_wp2_with fail
  refine (HTL.out _).mono ?_
  rintro e w5 ⟨rfl, rfl⟩
  go_wp2_with fail
  go_ret2
  exact ⟨rfl, B4.out⟩

set_option maxHeartbeats 400000 in
theorem parse_1o2 (l t wh pt wz z1 z2 z3 z4 : List UInt8) (N : Int) (w : World) (L : LaidW w) (hl : l.length ≤ 40)
    (minus : Bool) (hCP : ∀ w, Calls Tryd.prog 36 #[.string ⟨l.toArray⟩, .string ⟨#[45]⟩] w fun e w' => e = .returned (.tuple #[.string ⟨t.toArray⟩, .bool minus]) ∧ w = w')
    (hC : ∀ w, LaidW w → Calls Tryd.prog 37 #[.string ⟨t.toArray⟩, .string ⟨#[46]⟩] w fun e w' => e = .returned (.tuple #[.string ⟨wh.toArray⟩, .string ⟨pt.toArray⟩, .bool true]) ∧ ∃ n, w.drewN n = w')
    (hD1 : ∀ w, Calls Tryd.prog 38 #[.string ⟨wh.toArray⟩] w fun e w' => e = .returned (.bool true) ∧ Below w.heap.size w w')
    (hD2 : ∀ w, Calls Tryd.prog 38 #[.string ⟨pt.toArray⟩] w fun e w' => e = .returned (.bool true) ∧ Below w.heap.size w w')
    (hp : pt.length ≤ 6)
    (hTL : ∀ w, Calls Tryd.prog 39 #[.string ⟨wh.toArray⟩, .string ⟨#[48]⟩] w fun e w' => e = .returned (.string ⟨wz.toArray⟩) ∧ w = w')
    (hz : wz.length ≤ 13)
    (h1 : (⟨#[48]⟩ ++ ⟨wz.toArray⟩ : ByteArray) = ⟨z1.toArray⟩)
    (h2 : (⟨pt.toArray⟩ ++ ⟨#[48, 48, 48, 48, 48, 48]⟩ : ByteArray) = ⟨z2.toArray⟩)
    (_h2l : 6 ≤ z2.length)
    (h3 : (⟨z2.toArray⟩ : ByteArray).extract 0 6 = ⟨z3.toArray⟩)
    (h4 : (⟨z1.toArray⟩ ++ ⟨z3.toArray⟩ : ByteArray) = ⟨z4.toArray⟩)
    (_h1l : z1.length ≤ 14)
    (_h3l : z3.length ≤ 6)
    (hPU : ∀ w, Calls Tryd.prog 40 #[.string ⟨z4.toArray⟩, .int .i64 10, .int .i64 64] w fun e w' => e = .returned (.tuple #[.int .u64 N, .nilIface]) ∧ Below w.heap.size w w')
    (hN : 1000000000000000000 < N) :
    Calls Tryd.prog 25 #[.string ⟨l.toArray⟩] w fun e w' => e = .returned (.tuple #[.int .i64 0, .int .i64 3]) ∧ Below w.heap.size w w' := by
  have HL := Lib.hid L
  have hl0 : decide (40 < (l.length : Int)) = false := decide_eq_false (by omega)
  have HCP := Lib.hid hCP
  have HC := Lib.hid hC
  have HD1 := Lib.hid hD1
  have HD2 := Lib.hid hD2
  have hp0 : decide (6 < (pt.length : Int)) = false := decide_eq_false (by omega)
  have HTL := Lib.hid hTL
  have HPU := Lib.hid hPU
  have hz0 : decide (13 < (wz.length : Int)) = false := decide_eq_false (by omega)
  clear L hCP hC hD1 hD2 hTL hPU
  go_enter Tryd.func25, Tryd.ntmps25
  go_wp2_with fail
  refine (HCP.out _).mono ?_
  rintro e w1 ⟨rfl, rfl⟩
  go_wp2_with fail
  refine (HC.out _ HL.out).mono ?_
  rintro e w2 ⟨rfl, k, rfl⟩
  have B2 := Lib.hid (below_drewN (Below.refl w.heap.size w) k)
  go_wp2_with fail
  refine (HD1.out _).mono ?_
  rintro e w3 ⟨rfl, h3'⟩
  have B3 := Lib.hid (B2.out.trans (h3'.mono B2.out.size))
  clear h3' B2
  go_wp2_with fail
  refine (HD2.out _).mono ?_
  rintro e w4 ⟨rfl, h4'⟩
  have B4 := Lib.hid (B3.out.trans (h4'.mono B3.out.size))
  clear h4' B3
  go_wp2_with fail
  refine (HTL.out _).mono ?_
  rintro e w5 ⟨rfl, rfl⟩
  go_wp2_with fail
  refine (HPU.out _).mono ?_
  rintro e w6 ⟨rfl, h6'⟩
  have B6 := Lib.hid (B4.out.trans (h6'.mono B4.out.size))
  clear h6' B4
  go_wp2_with fail
  go_ret2
  exact ⟨rfl, B6.out⟩

set_option maxHeartbeats 400000 in
theorem parse_1m (l t wh pt wz z1 z2 z3 z4 : List UInt8) (N : Int) (w : World) (L : LaidW w) (hl : l.length ≤ 40)
    (hCP : ∀ w, Calls Tryd.prog 36 #[.string ⟨l.toArray⟩, .string ⟨#[45]⟩] w fun e w' => e = .returned (.tuple #[.string ⟨t.toArray⟩, .bool true]) ∧ w = w')
    (hC : ∀ w, LaidW w → Calls Tryd.prog 37 #[.string ⟨t.toArray⟩, .string ⟨#[46]⟩] w fun e w' => e = .returned (.tuple #[.string ⟨wh.toArray⟩, .string ⟨pt.toArray⟩, .bool true]) ∧ ∃ n, w.drewN n = w')
    (hD1 : ∀ w, Calls Tryd.prog 38 #[.string ⟨wh.toArray⟩] w fun e w' => e = .returned (.bool true) ∧ Below w.heap.size w w')
    (hD2 : ∀ w, Calls Tryd.prog 38 #[.string ⟨pt.toArray⟩] w fun e w' => e = .returned (.bool true) ∧ Below w.heap.size w w')
    (hp : pt.length ≤ 6)
    (hTL : ∀ w, Calls Tryd.prog 39 #[.string ⟨wh.toArray⟩, .string ⟨#[48]⟩] w fun e w' => e = .returned (.string ⟨wz.toArray⟩) ∧ w = w')
    (hz : wz.length ≤ 13)
    (h1 : (⟨#[48]⟩ ++ ⟨wz.toArray⟩ : ByteArray) = ⟨z1.toArray⟩)
    (h2 : (⟨pt.toArray⟩ ++ ⟨#[48, 48, 48, 48, 48, 48]⟩ : ByteArray) = ⟨z2.toArray⟩)
    (_h2l : 6 ≤ z2.length)
    (h3 : (⟨z2.toArray⟩ : ByteArray).extract 0 6 = ⟨z3.toArray⟩)
    (h4 : (⟨z1.toArray⟩ ++ ⟨z3.toArray⟩ : ByteArray) = ⟨z4.toArray⟩)
    (_h1l : z1.length ≤ 14)
    (_h3l : z3.length ≤ 6)
    (hPU : ∀ w, Calls Tryd.prog 40 #[.string ⟨z4.toArray⟩, .int .i64 10, .int .i64 64] w fun e w' => e = .returned (.tuple #[.int .u64 N, .nilIface]) ∧ Below w.heap.size w w')
    (_hN0 : 0 ≤ N)
    (hN : N ≤ 1000000000000000000) :
    Calls Tryd.prog 25 #[.string ⟨l.toArray⟩] w fun e w' => e = .returned (.tuple #[.int .i64 (-N), .int .i64 0]) ∧ Below w.heap.size w w' := by
  have HL := Lib.hid L
  have hl0 : decide (40 < (l.length : Int)) = false := decide_eq_false (by omega)
  have HCP := Lib.hid hCP
  have HC := Lib.hid hC
  have HD1 := Lib.hid hD1
  have HD2 := Lib.hid hD2
  have hp0 : decide (6 < (pt.length : Int)) = false := decide_eq_false (by omega)
  have HTL := Lib.hid hTL
  have HPU := Lib.hid hPU
  have hz0 : decide (13 < (wz.length : Int)) = false := decide_eq_false (by omega)
  have hN1 : decide (1000000000000000000 < N) = false := decide_eq_false (by omega)
  clear L hCP hC hD1 hD2 hTL hPU
  go_enter Tryd.func25, Tryd.ntmps25
  go_wp2_with fail
  refine (HCP.out _).mono ?_
  rintro e w1 ⟨rfl, rfl⟩
  go_wp2_with fail
  refine (HC.out _ HL.out).mono ?_
  rintro e w2 ⟨rfl, k, rfl⟩
  have B2 := Lib.hid (below_drewN (Below.refl w.heap.size w) k)
  go_wp2_with fail
  refine (HD1.out _).mono ?_
  rintro e w3 ⟨rfl, h3'⟩
  have B3 := Lib.hid (B2.out.trans (h3'.mono B2.out.size))
  clear h3' B2
  go_wp2_with fail
  refine (HD2.out _).mono ?_
  rintro e w4 ⟨rfl, h4'⟩
  have B4 := Lib.hid (B3.out.trans (h4'.mono B3.out.size))
  clear h4' B3
  go_wp2_with fail
  refine (HTL.out _).mono ?_
  rintro e w5 ⟨rfl, rfl⟩
  go_wp2_with fail
  refine (HPU.out _).mono ?_
  rintro e w6 ⟨rfl, h6'⟩
  have B6 := Lib.hid (B4.out.trans (h6'.mono B4.out.size))
  clear h6' B4
  go_wp2_with fail
  go_ret2
  exact ⟨rfl, B6.out⟩

set_option maxHeartbeats 400000 in
theorem parse_1p (l t wh pt wz z1 z2 z3 z4 : List UInt8) (N : Int) (w : World) (L : LaidW w) (hl : l.length ≤ 40)
    (hCP : ∀ w, Calls Tryd.prog 36 #[.string ⟨l.toArray⟩, .string ⟨#[45]⟩] w fun e w' => e = .returned (.tuple #[.string ⟨t.toArray⟩, .bool false]) ∧ w = w')
    (hC : ∀ w, LaidW w → Calls Tryd.prog 37 #[.string ⟨t.toArray⟩, .string ⟨#[46]⟩] w fun e w' => e = .returned (.tuple #[.string ⟨wh.toArray⟩, .string ⟨pt.toArray⟩, .bool true]) ∧ ∃ n, w.drewN n = w')
    (hD1 : ∀ w, Calls Tryd.prog 38 #[.string ⟨wh.toArray⟩] w fun e w' => e = .returned (.bool true) ∧ Below w.heap.size w w')
    (hD2 : ∀ w, Calls Tryd.prog 38 #[.string ⟨pt.toArray⟩] w fun e w' => e = .returned (.bool true) ∧ Below w.heap.size w w')
    (hp : pt.length ≤ 6)
    (hTL : ∀ w, Calls Tryd.prog 39 #[.string ⟨wh.toArray⟩, .string ⟨#[48]⟩] w fun e w' => e = .returned (.string ⟨wz.toArray⟩) ∧ w = w')
    (hz : wz.length ≤ 13)
    (h1 : (⟨#[48]⟩ ++ ⟨wz.toArray⟩ : ByteArray) = ⟨z1.toArray⟩)
    (h2 : (⟨pt.toArray⟩ ++ ⟨#[48, 48, 48, 48, 48, 48]⟩ : ByteArray) = ⟨z2.toArray⟩)
    (_h2l : 6 ≤ z2.length)
    (h3 : (⟨z2.toArray⟩ : ByteArray).extract 0 6 = ⟨z3.toArray⟩)
    (h4 : (⟨z1.toArray⟩ ++ ⟨z3.toArray⟩ : ByteArray) = ⟨z4.toArray⟩)
    (_h1l : z1.length ≤ 14)
    (_h3l : z3.length ≤ 6)
    (hPU : ∀ w, Calls Tryd.prog 40 #[.string ⟨z4.toArray⟩, .int .i64 10, .int .i64 64] w fun e w' => e = .returned (.tuple #[.int .u64 N, .nilIface]) ∧ Below w.heap.size w w')
    (_hN0 : 0 ≤ N)
    (hN : N ≤ 1000000000000000000) :
    Calls Tryd.prog 25 #[.string ⟨l.toArray⟩] w fun e w' => e = .returned (.tuple #[.int .i64 N, .int .i64 0]) ∧ Below w.heap.size w w' := by
  have HL := Lib.hid L
  have hl0 : decide (40 < (l.length : Int)) = false := decide_eq_false (by omega)
  have HCP := Lib.hid hCP
  have HC := Lib.hid hC
  have HD1 := Lib.hid hD1
  have HD2 := Lib.hid hD2
  have hp0 : decide (6 < (pt.length : Int)) = false := decide_eq_false (by omega)
  have HTL := Lib.hid hTL
  have HPU := Lib.hid hPU
  have hz0 : decide (13 < (wz.length : Int)) = false := decide_eq_false (by omega)
  have hN1 : decide (1000000000000000000 < N) = false := decide_eq_false (by omega)
  clear L hCP hC hD1 hD2 hTL hPU
  go_enter Tryd.func25, Tryd.ntmps25
  go_wp2_with fail
  refine (HCP.out _).mono ?_
  rintro e w1 ⟨rfl, rfl⟩
  go_wp2_with fail
  refine (HC.out _ HL.out).mono ?_
  rintro e w2 ⟨rfl, k, rfl⟩
  have B2 := Lib.hid (below_drewN (Below.refl w.heap.size w) k)
  go_wp2_with fail
  refine (HD1.out _).mono ?_
  rintro e w3 ⟨rfl, h3'⟩
  have B3 := Lib.hid (B2.out.trans (h3'.mono B2.out.size))
  clear h3' B2
  go_wp2_with fail
  refine (HD2.out _).mono ?_
  rintro e w4 ⟨rfl, h4'⟩
  have B4 := Lib.hid (B3.out.trans (h4'.mono B3.out.size))
  clear h4' B3
  go_wp2_with fail
  refine (HTL.out _).mono ?_
  rintro e w5 ⟨rfl, rfl⟩
  go_wp2_with fail
  refine (HPU.out _).mono ?_
  rintro e w6 ⟨rfl, h6'⟩
  have B6 := Lib.hid (B4.out.trans (h6'.mono B4.out.size))
  clear h6' B4
  go_wp2_with fail
  go_ret2
  exact ⟨rfl, B6.out⟩

set_option maxHeartbeats 400000 in
theorem parse_0o1 (l t wh pt wz : List UInt8) (w : World) (L : LaidW w) (hl : l.length ≤ 40)
    (minus : Bool) (hCP : ∀ w, Calls Tryd.prog 36 #[.string ⟨l.toArray⟩, .string ⟨#[45]⟩] w fun e w' => e = .returned (.tuple #[.string ⟨t.toArray⟩, .bool minus]) ∧ w = w')
    (hC : ∀ w, LaidW w → Calls Tryd.prog 37 #[.string ⟨t.toArray⟩, .string ⟨#[46]⟩] w fun e w' => e = .returned (.tuple #[.string ⟨wh.toArray⟩, .string ⟨pt.toArray⟩, .bool false]) ∧ ∃ n, w.drewN n = w')
    (hD1 : ∀ w, Calls Tryd.prog 38 #[.string ⟨wh.toArray⟩] w fun e w' => e = .returned (.bool true) ∧ Below w.heap.size w w')
    (_hp : pt.length ≤ 6)
    (hTL : ∀ w, Calls Tryd.prog 39 #[.string ⟨wh.toArray⟩, .string ⟨#[48]⟩] w fun e w' => e = .returned (.string ⟨wz.toArray⟩) ∧ w = w')
    (hz : 13 < (wz.length : Int)) :
    Calls Tryd.prog 25 #[.string ⟨l.toArray⟩] w fun e w' => e = .returned (.tuple #[.int .i64 0, .int .i64 3]) ∧ Below w.heap.size w w' := by
  have HL := Lib.hid L
  have hl0 : decide (40 < (l.length : Int)) = false := decide_eq_false (by omega)
  have HCP := Lib.hid hCP
  have HC := Lib.hid hC
  have HD1 := Lib.hid hD1
  have HTL := Lib.hid hTL
  clear L hCP hC hD1 hTL
  go_enter Tryd.func25, Tryd.ntmps25
  go_wp2_with fail
  refine (HCP.out _).mono ?_
  rintro e w1 ⟨rfl, rfl⟩
  go_wp2_with fail
  refine (HC.out _ HL.out).mono ?_
  rintro e w2 ⟨rfl, k, rfl⟩
  have B2 := Lib.hid (below_drewN (Below.refl w.heap.size w) k)
  go_wp2_with fail
  refine (HD1.out _).mono ?_
  rintro e w3 ⟨rfl, h3'⟩
  have B3 := Lib.hid (B2.out.trans (h3'.mono B2.out.size))
  clear h3' B2
  go_wp2_with fail
  refine (HTL.out _).mono ?_
  rintro e w5 ⟨rfl, rfl⟩
  go_wp2_with fail
  go_ret2
  exact ⟨rfl, B3.out⟩

set_option maxHeartbeats 400000 in
theorem parse_0o2 (l t wh pt wz z1 z2 z3 z4 : List UInt8) (N : Int) (w : World) (L : LaidW w) (hl : l.length ≤ 40)
    (minus : Bool) (hCP : ∀ w, Calls Tryd.prog 36 #[.string ⟨l.toArray⟩, .string ⟨#[45]⟩] w fun e w' => e = .returned (.tuple #[.string ⟨t.toArray⟩, .bool minus]) ∧ w = w')
    (hC : ∀ w, LaidW w → Calls Tryd.prog 37 #[.string ⟨t.toArray⟩, .string ⟨#[46]⟩] w fun e w' => e = .returned (.tuple #[.string ⟨wh.toArray⟩, .string ⟨pt.toArray⟩, .bool false]) ∧ ∃ n, w.drewN n = w')
    (hD1 : ∀ w, Calls Tryd.prog 38 #[.string ⟨wh.toArray⟩] w fun e w' => e = .returned (.bool true) ∧ Below w.heap.size w w')
    (_hp : pt.length ≤ 6)
    (hTL : ∀ w, Calls Tryd.prog 39 #[.string ⟨wh.toArray⟩, .string ⟨#[48]⟩] w fun e w' => e = .returned (.string ⟨wz.toArray⟩) ∧ w = w')
    (hz : wz.length ≤ 13)
    (h1 : (⟨#[48]⟩ ++ ⟨wz.toArray⟩ : ByteArray) = ⟨z1.toArray⟩)
    (h2 : (⟨pt.toArray⟩ ++ ⟨#[48, 48, 48, 48, 48, 48]⟩ : ByteArray) = ⟨z2.toArray⟩)
    (_h2l : 6 ≤ z2.length)
    (h3 : (⟨z2.toArray⟩ : ByteArray).extract 0 6 = ⟨z3.toArray⟩)
    (h4 : (⟨z1.toArray⟩ ++ ⟨z3.toArray⟩ : ByteArray) = ⟨z4.toArray⟩)
    (_h1l : z1.length ≤ 14)
    (_h3l : z3.length ≤ 6)
    (hPU : ∀ w, Calls Tryd.prog 40 #[.string ⟨z4.toArray⟩, .int .i64 10, .int .i64 64] w fun e w' => e = .returned (.tuple #[.int .u64 N, .nilIface]) ∧ Below w.heap.size w w')
    (hN : 1000000000000000000 < N) :
    Calls Tryd.prog 25 #[.string ⟨l.toArray⟩] w fun e w' => e = .returned (.tuple #[.int .i64 0, .int .i64 3]) ∧ Below w.heap.size w w' := by
  have HL := Lib.hid L
  have hl0 : decide (40 < (l.length : Int)) = false := decide_eq_false (by omega)
  have HCP := Lib.hid hCP
  have HC := Lib.hid hC
  have HD1 := Lib.hid hD1
  have HTL := Lib.hid hTL
  have HPU := Lib.hid hPU
  have hz0 : decide (13 < (wz.length : Int)) = false := decide_eq_false (by omega)
  clear L hCP hC hD1 hTL hPU
  go_enter Tryd.func25, Tryd.ntmps25
  go_wp2_with fail
  refine (HCP.out _).mono ?_
  rintro e w1 ⟨rfl, rfl⟩
  go_wp2_with fail
  refine (HC.out _ HL.out).mono ?_
  rintro e w2 ⟨rfl, k, rfl⟩
  have B2 := Lib.hid (below_drewN (Below.refl w.heap.size w) k)
  go_wp2_with fail
  refine (HD1.out _).mono ?_
  rintro e w3 ⟨rfl, h3'⟩
  have B3 := Lib.hid (B2.out.trans (h3'.mono B2.out.size))
  clear h3' B2
  go_wp2_with fail
  refine (HTL.out _).mono ?_
  rintro e w5 ⟨rfl, rfl⟩
  go_wp2_with fail
  refine (HPU.out _).mono ?_
  rintro e w6 ⟨rfl, h6'⟩
  have B6 := Lib.hid (B3.out.trans (h6'.mono B3.out.size))
  clear h6' B3
  go_wp2_with fail
  go_ret2
  exact ⟨rfl, B6.out⟩

set_option maxHeartbeats 400000 in
theorem parse_0m (l t wh pt wz z1 z2 z3 z4 : List UInt8) (N : Int) (w : World) (L : LaidW w) (hl : l.length ≤ 40)
    (hCP : ∀ w, Calls Tryd.prog 36 #[.string ⟨l.toArray⟩, .string ⟨#[45]⟩] w fun e w' => e = .returned (.tuple #[.string ⟨t.toArray⟩, .bool true]) ∧ w = w')
    (hC : ∀ w, LaidW w → Calls Tryd.prog 37 #[.string ⟨t.toArray⟩, .string ⟨#[46]⟩] w fun e w' => e = .returned (.tuple #[.string ⟨wh.toArray⟩, .string ⟨pt.toArray⟩, .bool false]) ∧ ∃ n, w.drewN n = w')
    (hD1 : ∀ w, Calls Tryd.prog 38 #[.string ⟨wh.toArray⟩] w fun e w' => e = .returned (.bool true) ∧ Below w.heap.size w w')
    (_hp : pt.length ≤ 6)
    (hTL : ∀ w, Calls Tryd.prog 39 #[.string ⟨wh.toArray⟩, .string ⟨#[48]⟩] w fun e w' => e = .returned (.string ⟨wz.toArray⟩) ∧ w = w')
    (hz : wz.length ≤ 13)
    (h1 : (⟨#[48]⟩ ++ ⟨wz.toArray⟩ : ByteArray) = ⟨z1.toArray⟩)
    (h2 : (⟨pt.toArray⟩ ++ ⟨#[48, 48, 48, 48, 48, 48]⟩ : ByteArray) = ⟨z2.toArray⟩)
    (_h2l : 6 ≤ z2.length)
    (h3 : (⟨z2.toArray⟩ : ByteArray).extract 0 6 = ⟨z3.toArray⟩)
    (h4 : (⟨z1.toArray⟩ ++ ⟨z3.toArray⟩ : ByteArray) = ⟨z4.toArray⟩)
    (_h1l : z1.length ≤ 14)
    (_h3l : z3.length ≤ 6)
    (hPU : ∀ w, Calls Tryd.prog 40 #[.string ⟨z4.toArray⟩, .int .i64 10, .int .i64 64] w fun e w' => e = .returned (.tuple #[.int .u64 N, .nilIface]) ∧ Below w.heap.size w w')
    (_hN0 : 0 ≤ N)
    (hN : N ≤ 1000000000000000000) :
    Calls Tryd.prog 25 #[.string ⟨l.toArray⟩] w fun e w' => e = .returned (.tuple #[.int .i64 (-N), .int .i64 0]) ∧ Below w.heap.size w w' := by
  have HL := Lib.hid L
  have hl0 : decide (40 < (l.length : Int)) = false := decide_eq_false (by omega)
  have HCP := Lib.hid hCP
  have HC := Lib.hid hC
  have HD1 := Lib.hid hD1
  have HTL := Lib.hid hTL
  have HPU := Lib.hid hPU
  have hz0 : decide (13 < (wz.length : Int)) = false := decide_eq_false (by omega)
  have hN1 : decide (1000000000000000000 < N) = false := decide_eq_false (by omega)
  clear L hCP hC hD1 hTL hPU
  go_enter Tryd.func25, Tryd.ntmps25
  go_wp2_with fail
  refine (HCP.out _).mono ?_
  rintro e w1 ⟨rfl, rfl⟩
  go_wp2_with fail
  refine (HC.out _ HL.out).mono ?_
  rintro e w2 ⟨rfl, k, rfl⟩
  have B2 := Lib.hid (below_drewN (Below.refl w.heap.size w) k)
  go_wp2_with fail
  refine (HD1.out _).mono ?_
  rintro e w3 ⟨rfl, h3'⟩
  have B3 := Lib.hid (B2.out.trans (h3'.mono B2.out.size))
  clear h3' B2
  go_wp2_with fail
  refine (HTL.out _).mono ?_
  rintro e w5 ⟨rfl, rfl⟩
  go_wp2_with fail
  refine (HPU.out _).mono ?_
  rintro e w6 ⟨rfl, h6'⟩
  have B6 := Lib.hid (B3.out.trans (h6'.mono B3.out.size))
  clear h6' B3
  go_wp2_with fail
  go_ret2
  exact ⟨rfl, B6.out⟩

set_option maxHeartbeats 400000 in
theorem parse_0p (l t wh pt wz z1 z2 z3 z4 : List UInt8) (N : Int) (w : World) (L : LaidW w) (hl : l.length ≤ 40)
    (hCP : ∀ w, Calls Tryd.prog 36 #[.string ⟨l.toArray⟩, .string ⟨#[45]⟩] w fun e w' => e = .returned (.tuple #[.string ⟨t.toArray⟩, .bool false]) ∧ w = w')
    (hC : ∀ w, LaidW w → Calls Tryd.prog 37 #[.string ⟨t.toArray⟩, .string ⟨#[46]⟩] w fun e w' => e = .returned (.tuple #[.string ⟨wh.toArray⟩, .string ⟨pt.toArray⟩, .bool false]) ∧ ∃ n, w.drewN n = w')
    (hD1 : ∀ w, Calls Tryd.prog 38 #[.string ⟨wh.toArray⟩] w fun e w' => e = .returned (.bool true) ∧ Below w.heap.size w w')
    (_hp : pt.length ≤ 6)
    (hTL : ∀ w, Calls Tryd.prog 39 #[.string ⟨wh.toArray⟩, .string ⟨#[48]⟩] w fun e w' => e = .returned (.string ⟨wz.toArray⟩) ∧ w = w')
    (hz : wz.length ≤ 13)
    (h1 : (⟨#[48]⟩ ++ ⟨wz.toArray⟩ : ByteArray) = ⟨z1.toArray⟩)
    (h2 : (⟨pt.toArray⟩ ++ ⟨#[48, 48, 48, 48, 48, 48]⟩ : ByteArray) = ⟨z2.toArray⟩)
    (_h2l : 6 ≤ z2.length)
    (h3 : (⟨z2.toArray⟩ : ByteArray).extract 0 6 = ⟨z3.toArray⟩)
    (h4 : (⟨z1.toArray⟩ ++ ⟨z3.toArray⟩ : ByteArray) = ⟨z4.toArray⟩)
    (_h1l : z1.length ≤ 14)
    (_h3l : z3.length ≤ 6)
    (hPU : ∀ w, Calls Tryd.prog 40 #[.string ⟨z4.toArray⟩, .int .i64 10, .int .i64 64] w fun e w' => e = .returned (.tuple #[.int .u64 N, .nilIface]) ∧ Below w.heap.size w w')
    (_hN0 : 0 ≤ N)
    (hN : N ≤ 1000000000000000000) :
    Calls Tryd.prog 25 #[.string ⟨l.toArray⟩] w fun e w' => e = .returned (.tuple #[.int .i64 N, .int .i64 0]) ∧ Below w.heap.size w w' := by
  have HL := Lib.hid L
  have hl0 : decide (40 < (l.length : Int)) = false := decide_eq_false (by omega)
  have HCP := Lib.hid hCP
  have HC := Lib.hid hC
  have HD1 := Lib.hid hD1
  have HTL := Lib.hid hTL
  have HPU := Lib.hid hPU
  have hz0 : decide (13 < (wz.length : Int)) = false := decide_eq_false (by omega)
  have hN1 : decide (1000000000000000000 < N) = false := decide_eq_false (by omega)
  clear L hCP hC hD1 hTL hPU
  go_enter Tryd.func25, Tryd.ntmps25
  go_wp2_with fail
  refine (HCP.out _).mono ?_
  rintro e w1 ⟨rfl, rfl⟩
  go_wp2_with fail
  refine (HC.out _ HL.out).mono ?_
  rintro e w2 ⟨rfl, k, rfl⟩
  have B2 := Lib.hid (below_drewN (Below.refl w.heap.size w) k)
  go_wp2_with fail
  refine (HD1.out _).mono ?_
  rintro e w3 ⟨rfl, h3'⟩
  have B3 := Lib.hid (B2.out.trans (h3'.mono B2.out.size))
  clear h3' B2
  go_wp2_with fail
  refine (HTL.out _).mono ?_
  rintro e w5 ⟨rfl, rfl⟩
  go_wp2_with fail
  refine (HPU.out _).mono ?_
  rintro e w6 ⟨rfl, h6'⟩
  have B6 := Lib.hid (B3.out.trans (h6'.mono B3.out.size))
  clear h6' B3
  go_wp2_with fail
  go_ret2
  exact ⟨rfl, B6.out⟩
end Go.Proofs.YtmepocffafcibaaDoor
