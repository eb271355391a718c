/-
  NumDivides: THE WALK OF THE LAW: it returns true at every two ints, in every world in which the tables lie; of what was there nothing is turned.
-/
import Derived.Test.YtmepocffafcibaaDoorLives
namespace Go.Proofs.YtmepocffafcibaaDoor
open Go.RowKit

theorem size_of (n s : Int) (w : World) (h : (n.natAbs : Int) = s) (hs : s ≤ 9223372036854775807) :
    Calls Tryd.prog 12 #[.int .i64 n] w fun e w' => e = .returned (.int .i64 s) ∧ w = w' := by
  rw [← h]; exact size_any n w (by omega) (by omega)

set_option maxHeartbeats 400000 in
theorem divides_no (a b x : Int) (w : World) (L : LaidW w) (hx : (x != 0) = true)
    (hM : ∀ w, Calls Tryd.prog 13 #[.int .i64 a, .int .i64 b] w fun e w' => e = .returned (.tuple #[.int .i64 0, .int .i64 x]) ∧ w = w') :
    Calls Tryd.prog 4 #[.int .i64 a, .int .i64 b] w fun e w' => e = .returned (.bool true) ∧ Below w.heap.size w w' := by
  have HM := Lib.hid hM
  have HL := Lib.hid L
  clear hM L
  go_enter Tryd.func4, Tryd.ntmps4
  go_wp2_with fail
  refine (HM.out _).mono ?_
  rintro e w1 ⟨rfl, rfl⟩
  go_wp2_with fail
  refine (lives_any _ HL.out).mono ?_
  rintro e w2 ⟨rfl, h2⟩
  have B2 := Lib.hid h2
  clear h2
  go_wp2_with fail
  go_ret
  exact ⟨rfl, B2.out⟩

set_option maxHeartbeats 400000 in
theorem divides_0f (a b r q f : Int) (w : World) (L : LaidW w)
    (hM : ∀ w, Calls Tryd.prog 13 #[.int .i64 a, .int .i64 b] w fun e w' => e = .returned (.tuple #[.int .i64 r, .int .i64 0]) ∧ w = w')
    (hD : ∀ w, Calls Tryd.prog 14 #[.int .i64 a, .int .i64 b] w fun e w' => e = .returned (.tuple #[.int .i64 q, .int .i64 f]) ∧ Below w.heap.size w w')
    (hr : (r != 0) = false)
    (hf : (f != 0) = true) :
    Calls Tryd.prog 4 #[.int .i64 a, .int .i64 b] w fun e w' => e = .returned (.bool true) ∧ Below w.heap.size w w' := by
  have HM := Lib.hid hM
  have HD := Lib.hid hD
  have HL := Lib.hid L
  clear hM hD L
  go_enter Tryd.func4, Tryd.ntmps4
  go_wp2_with fail
  refine (HM.out _).mono ?_
  rintro e w1 ⟨rfl, rfl⟩
  go_wp2_with fail
  refine (HD.out _).mono ?_
  rintro e w2 ⟨rfl, h2⟩
  have B2 := Lib.hid h2
  clear h2
  go_wp2_with fail
  refine (lives_any _ (HL.out.below B2.out)).mono ?_
  rintro e w3 ⟨rfl, h3⟩
  have B3 := Lib.hid (B2.out.trans (h3.mono B2.out.size))
  clear h3
  go_wp2_with fail
  go_ret
  exact ⟨rfl, B3.out⟩

set_option maxHeartbeats 400000 in
theorem divides_0a (a b r q f : Int) (w : World) (L : LaidW w)
    (hM : ∀ w, Calls Tryd.prog 13 #[.int .i64 a, .int .i64 b] w fun e w' => e = .returned (.tuple #[.int .i64 r, .int .i64 0]) ∧ w = w')
    (hD : ∀ w, Calls Tryd.prog 14 #[.int .i64 a, .int .i64 b] w fun e w' => e = .returned (.tuple #[.int .i64 q, .int .i64 f]) ∧ Below w.heap.size w w')
    (hr : (r != 0) = false)
    (hf : (f != 0) = false) (ta : Int) (hta : (a.natAbs : Int) = ta) (hta1 : ta ≤ 1000000000000000000) (ha : 1000000000000 < ta) :
    Calls Tryd.prog 4 #[.int .i64 a, .int .i64 b] w fun e w' => e = .returned (.bool true) ∧ Below w.heap.size w w' := by
  have HM := Lib.hid hM
  have HD := Lib.hid hD
  have HL := Lib.hid L
  have HTA := Lib.hid hta
  clear hM hD L hta
  go_enter Tryd.func4, Tryd.ntmps4
  go_wp2_with fail
  refine (HM.out _).mono ?_
  rintro e w1 ⟨rfl, rfl⟩
  go_wp2_with fail
  refine (HD.out _).mono ?_
  rintro e w2 ⟨rfl, h2⟩
  have B2 := Lib.hid h2
  clear h2
  go_wp2_with fail
  refine (size_of a ta _ HTA.out (by omega)).mono ?_
  rintro e w1 ⟨rfl, rfl⟩
  go_wp2_with fail
  refine (lives_any _ (HL.out.below B2.out)).mono ?_
  rintro e w3 ⟨rfl, h3⟩
  have B3 := Lib.hid (B2.out.trans (h3.mono B2.out.size))
  clear h3
  go_wp2_with fail
  go_ret
  exact ⟨rfl, B3.out⟩

set_option maxHeartbeats 400000 in
theorem divides_0b (a b r q f : Int) (w : World) (L : LaidW w)
    (hM : ∀ w, Calls Tryd.prog 13 #[.int .i64 a, .int .i64 b] w fun e w' => e = .returned (.tuple #[.int .i64 r, .int .i64 0]) ∧ w = w')
    (hD : ∀ w, Calls Tryd.prog 14 #[.int .i64 a, .int .i64 b] w fun e w' => e = .returned (.tuple #[.int .i64 q, .int .i64 f]) ∧ Below w.heap.size w w')
    (hr : (r != 0) = false)
    (hf : (f != 0) = false) (ta tb : Int) (hta : (a.natAbs : Int) = ta) (htb : (b.natAbs : Int) = tb) (htb1 : tb ≤ 1000000000000000000) (ha : ta ≤ 1000000000000) (hb : 1000000000 < tb) :
    Calls Tryd.prog 4 #[.int .i64 a, .int .i64 b] w fun e w' => e = .returned (.bool true) ∧ Below w.heap.size w w' := by
  have HM := Lib.hid hM
  have HD := Lib.hid hD
  have HL := Lib.hid L
  have HTA := Lib.hid hta
  have HTB := Lib.hid htb
  have na : decide (1000000000000 < ta) = false := decide_eq_false (by omega)
  clear hM hD L hta htb
  go_enter Tryd.func4, Tryd.ntmps4
  go_wp2_with fail
  refine (HM.out _).mono ?_
  rintro e w1 ⟨rfl, rfl⟩
  go_wp2_with fail
  refine (HD.out _).mono ?_
  rintro e w2 ⟨rfl, h2⟩
  have B2 := Lib.hid h2
  clear h2
  go_wp2_with fail
  refine (size_of a ta _ HTA.out (by omega)).mono ?_
  rintro e w1 ⟨rfl, rfl⟩
  go_wp2_with fail
  refine (size_of b tb _ HTB.out (by omega)).mono ?_
  rintro e w1 ⟨rfl, rfl⟩
  go_wp2_with fail
  refine (lives_any _ (HL.out.below B2.out)).mono ?_
  rintro e w3 ⟨rfl, h3⟩
  have B3 := Lib.hid (B2.out.trans (h3.mono B2.out.size))
  clear h3
  go_wp2_with fail
  go_ret
  exact ⟨rfl, B3.out⟩

set_option maxHeartbeats 400000 in
theorem divides_0q (a b r q f : Int) (w : World) (L : LaidW w)
    (hM : ∀ w, Calls Tryd.prog 13 #[.int .i64 a, .int .i64 b] w fun e w' => e = .returned (.tuple #[.int .i64 r, .int .i64 0]) ∧ w = w')
    (hD : ∀ w, Calls Tryd.prog 14 #[.int .i64 a, .int .i64 b] w fun e w' => e = .returned (.tuple #[.int .i64 q, .int .i64 f]) ∧ Below w.heap.size w w')
    (hr : (r != 0) = false)
    (hf : (f != 0) = false) (ta tb tq : Int) (hta : (a.natAbs : Int) = ta) (htb : (b.natAbs : Int) = tb) (htq : (q.natAbs : Int) = tq) (htq1 : tq ≤ 1000000000000000000) (ha : ta ≤ 1000000000000) (hb : tb ≤ 1000000000) (hq : 1000000000 < tq) :
    Calls Tryd.prog 4 #[.int .i64 a, .int .i64 b] w fun e w' => e = .returned (.bool true) ∧ Below w.heap.size w w' := by
  have HM := Lib.hid hM
  have HD := Lib.hid hD
  have HL := Lib.hid L
  have HTA := Lib.hid hta
  have HTB := Lib.hid htb
  have HTQ := Lib.hid htq
  have na : decide (1000000000000 < ta) = false := decide_eq_false (by omega)
  have nb : decide (1000000000 < tb) = false := decide_eq_false (by omega)
  clear hM hD L hta htb htq
  go_enter Tryd.func4, Tryd.ntmps4
  go_wp2_with fail
  refine (HM.out _).mono ?_
  rintro e w1 ⟨rfl, rfl⟩
  go_wp2_with fail
  refine (HD.out _).mono ?_
  rintro e w2 ⟨rfl, h2⟩
  have B2 := Lib.hid h2
  clear h2
  go_wp2_with fail
  refine (size_of a ta _ HTA.out (by omega)).mono ?_
  rintro e w1 ⟨rfl, rfl⟩
  go_wp2_with fail
  refine (size_of b tb _ HTB.out (by omega)).mono ?_
  rintro e w1 ⟨rfl, rfl⟩
  go_wp2_with fail
  refine (size_of q tq _ HTQ.out (by omega)).mono ?_
  rintro e w1 ⟨rfl, rfl⟩
  go_wp2_with fail
  refine (lives_any _ (HL.out.below B2.out)).mono ?_
  rintro e w3 ⟨rfl, h3⟩
  have B3 := Lib.hid (B2.out.trans (h3.mono B2.out.size))
  clear h3
  go_wp2_with fail
  go_ret
  exact ⟨rfl, B3.out⟩

set_option maxHeartbeats 400000 in
theorem divides_0z (a b r q f : Int) (w : World) (L : LaidW w)
    (hM : ∀ w, Calls Tryd.prog 13 #[.int .i64 a, .int .i64 b] w fun e w' => e = .returned (.tuple #[.int .i64 r, .int .i64 0]) ∧ w = w')
    (hD : ∀ w, Calls Tryd.prog 14 #[.int .i64 a, .int .i64 b] w fun e w' => e = .returned (.tuple #[.int .i64 q, .int .i64 f]) ∧ Below w.heap.size w w')
    (hr : (r != 0) = false)
    (hf : (f != 0) = false) (ta tb tq g : Int) (hta : (a.natAbs : Int) = ta) (htb : (b.natAbs : Int) = tb) (htq : (q.natAbs : Int) = tq) (ha : ta ≤ 1000000000000) (hb : tb ≤ 1000000000) (hq : tq ≤ 1000000000) (_hqb1 : -1000000000000000000 ≤ q * b) (_hqb2 : q * b ≤ 1000000000000000000) (hg : ((a * 1000000 - q * b).natAbs : Int) = g) (_hg0 : 0 ≤ g) (hg1 : 2 * g ≤ tb) (_ha1 : -1000000000000 ≤ a) (_ha2 : a ≤ 1000000000000) :
    Calls Tryd.prog 4 #[.int .i64 a, .int .i64 b] w fun e w' => e = .returned (.bool true) ∧ Below w.heap.size w w' := by
  have HM := Lib.hid hM
  have HD := Lib.hid hD
  have HL := Lib.hid L
  have HTA := Lib.hid hta
  have HTB := Lib.hid htb
  have HTQ := Lib.hid htq
  have HG := Lib.hid hg
  have na : decide (1000000000000 < ta) = false := decide_eq_false (by omega)
  have nb : decide (1000000000 < tb) = false := decide_eq_false (by omega)
  have nq : decide (1000000000 < tq) = false := decide_eq_false (by omega)
  clear hM hD L hta htb htq hg
  go_enter Tryd.func4, Tryd.ntmps4
  go_wp2_with fail
  refine (HM.out _).mono ?_
  rintro e w1 ⟨rfl, rfl⟩
  go_wp2_with fail
  refine (HD.out _).mono ?_
  rintro e w2 ⟨rfl, h2⟩
  have B2 := Lib.hid h2
  clear h2
  go_wp2_with fail
  refine (size_of a ta _ HTA.out (by omega)).mono ?_
  rintro e w1 ⟨rfl, rfl⟩
  go_wp2_with fail
  refine (size_of b tb _ HTB.out (by omega)).mono ?_
  rintro e w1 ⟨rfl, rfl⟩
  go_wp2_with fail
  refine (size_of q tq _ HTQ.out (by omega)).mono ?_
  rintro e w1 ⟨rfl, rfl⟩
  go_wp2_with fail
  refine (size_of (a * 1000000 - q * b) g _ HG.out (by omega)).mono ?_
  rintro e w1 ⟨rfl, rfl⟩
  go_wp2_with fail
  refine (size_of b tb _ HTB.out (by omega)).mono ?_
  rintro e w1 ⟨rfl, rfl⟩
  go_wp2_with fail
  refine (lives_any _ (HL.out.below B2.out)).mono ?_
  rintro e w3 ⟨rfl, h3⟩
  have B3 := Lib.hid (B2.out.trans (h3.mono B2.out.size))
  clear h3
  go_wp2_with fail
  go_ret
  exact ⟨rfl, B3.out⟩

set_option maxHeartbeats 400000 in
theorem divides_1f (a b r q f : Int) (w : World) (L : LaidW w)
    (hM : ∀ w, Calls Tryd.prog 13 #[.int .i64 a, .int .i64 b] w fun e w' => e = .returned (.tuple #[.int .i64 r, .int .i64 0]) ∧ w = w')
    (hD : ∀ w, Calls Tryd.prog 14 #[.int .i64 a, .int .i64 b] w fun e w' => e = .returned (.tuple #[.int .i64 q, .int .i64 f]) ∧ Below w.heap.size w w')
    (hr : (r != 0) = true) (sg : Bool) (hs1 : decide (r < 0) = sg) (hs2 : decide (b < 0) = sg) (sr sb : Int) (hsr : (r.natAbs : Int) = sr) (hsb : (b.natAbs : Int) = sb) (hlt : sr < sb) (hsb1 : sb ≤ 1000000000000000000)
    (hf : (f != 0) = true) :
    Calls Tryd.prog 4 #[.int .i64 a, .int .i64 b] w fun e w' => e = .returned (.bool true) ∧ Below w.heap.size w w' := by
  have HM := Lib.hid hM
  have HD := Lib.hid hD
  have HL := Lib.hid L
  have HSR := Lib.hid hsr
  have HSB := Lib.hid hsb
  have hge : decide (sb ≤ sr) = false := decide_eq_false (by omega)
  clear hM hD L hsr hsb
  go_enter Tryd.func4, Tryd.ntmps4
  go_wp2_with fail
  refine (HM.out _).mono ?_
  rintro e w1 ⟨rfl, rfl⟩
  go_wp2_with fail
  refine (size_of r sr _ HSR.out (by omega)).mono ?_
  rintro e w1 ⟨rfl, rfl⟩
  go_wp2_with fail
  refine (size_of b sb _ HSB.out (by omega)).mono ?_
  rintro e w1 ⟨rfl, rfl⟩
  go_wp2_with fail
  refine (HD.out _).mono ?_
  rintro e w2 ⟨rfl, h2⟩
  have B2 := Lib.hid h2
  clear h2
  go_wp2_with fail
  refine (lives_any _ (HL.out.below B2.out)).mono ?_
  rintro e w3 ⟨rfl, h3⟩
  have B3 := Lib.hid (B2.out.trans (h3.mono B2.out.size))
  clear h3
  go_wp2_with fail
  go_ret
  exact ⟨rfl, B3.out⟩

set_option maxHeartbeats 400000 in
theorem divides_1a (a b r q f : Int) (w : World) (L : LaidW w)
    (hM : ∀ w, Calls Tryd.prog 13 #[.int .i64 a, .int .i64 b] w fun e w' => e = .returned (.tuple #[.int .i64 r, .int .i64 0]) ∧ w = w')
    (hD : ∀ w, Calls Tryd.prog 14 #[.int .i64 a, .int .i64 b] w fun e w' => e = .returned (.tuple #[.int .i64 q, .int .i64 f]) ∧ Below w.heap.size w w')
    (hr : (r != 0) = true) (sg : Bool) (hs1 : decide (r < 0) = sg) (hs2 : decide (b < 0) = sg) (sr sb : Int) (hsr : (r.natAbs : Int) = sr) (hsb : (b.natAbs : Int) = sb) (hlt : sr < sb) (hsb1 : sb ≤ 1000000000000000000)
    (hf : (f != 0) = false) (ta : Int) (hta : (a.natAbs : Int) = ta) (hta1 : ta ≤ 1000000000000000000) (ha : 1000000000000 < ta) :
    Calls Tryd.prog 4 #[.int .i64 a, .int .i64 b] w fun e w' => e = .returned (.bool true) ∧ Below w.heap.size w w' := by
  have HM := Lib.hid hM
  have HD := Lib.hid hD
  have HL := Lib.hid L
  have HSR := Lib.hid hsr
  have HSB := Lib.hid hsb
  have hge : decide (sb ≤ sr) = false := decide_eq_false (by omega)
  have HTA := Lib.hid hta
  clear hM hD L hsr hsb hta
  go_enter Tryd.func4, Tryd.ntmps4
  go_wp2_with fail
  refine (HM.out _).mono ?_
  rintro e w1 ⟨rfl, rfl⟩
  go_wp2_with fail
  refine (size_of r sr _ HSR.out (by omega)).mono ?_
  rintro e w1 ⟨rfl, rfl⟩
  go_wp2_with fail
  refine (size_of b sb _ HSB.out (by omega)).mono ?_
  rintro e w1 ⟨rfl, rfl⟩
  go_wp2_with fail
  refine (HD.out _).mono ?_
  rintro e w2 ⟨rfl, h2⟩
  have B2 := Lib.hid h2
  clear h2
  go_wp2_with fail
  refine (size_of a ta _ HTA.out (by omega)).mono ?_
  rintro e w1 ⟨rfl, rfl⟩
  go_wp2_with fail
  refine (lives_any _ (HL.out.below B2.out)).mono ?_
  rintro e w3 ⟨rfl, h3⟩
  have B3 := Lib.hid (B2.out.trans (h3.mono B2.out.size))
  clear h3
  go_wp2_with fail
  go_ret
  exact ⟨rfl, B3.out⟩

set_option maxHeartbeats 400000 in
theorem divides_1b (a b r q f : Int) (w : World) (L : LaidW w)
    (hM : ∀ w, Calls Tryd.prog 13 #[.int .i64 a, .int .i64 b] w fun e w' => e = .returned (.tuple #[.int .i64 r, .int .i64 0]) ∧ w = w')
    (hD : ∀ w, Calls Tryd.prog 14 #[.int .i64 a, .int .i64 b] w fun e w' => e = .returned (.tuple #[.int .i64 q, .int .i64 f]) ∧ Below w.heap.size w w')
    (hr : (r != 0) = true) (sg : Bool) (hs1 : decide (r < 0) = sg) (hs2 : decide (b < 0) = sg) (sr sb : Int) (hsr : (r.natAbs : Int) = sr) (hsb : (b.natAbs : Int) = sb) (hlt : sr < sb) (hsb1 : sb ≤ 1000000000000000000)
    (hf : (f != 0) = false) (ta tb : Int) (hta : (a.natAbs : Int) = ta) (htb : (b.natAbs : Int) = tb) (htb1 : tb ≤ 1000000000000000000) (ha : ta ≤ 1000000000000) (hb : 1000000000 < tb) :
    Calls Tryd.prog 4 #[.int .i64 a, .int .i64 b] w fun e w' => e = .returned (.bool true) ∧ Below w.heap.size w w' := by
  have HM := Lib.hid hM
  have HD := Lib.hid hD
  have HL := Lib.hid L
  have HSR := Lib.hid hsr
  have HSB := Lib.hid hsb
  have hge : decide (sb ≤ sr) = false := decide_eq_false (by omega)
  have HTA := Lib.hid hta
  have HTB := Lib.hid htb
  have na : decide (1000000000000 < ta) = false := decide_eq_false (by omega)
  clear hM hD L hsr hsb hta htb
  go_enter Tryd.func4, Tryd.ntmps4
  go_wp2_with fail
  refine (HM.out _).mono ?_
  rintro e w1 ⟨rfl, rfl⟩
  go_wp2_with fail
  refine (size_of r sr _ HSR.out (by omega)).mono ?_
  rintro e w1 ⟨rfl, rfl⟩
  go_wp2_with fail
  refine (size_of b sb _ HSB.out (by omega)).mono ?_
  rintro e w1 ⟨rfl, rfl⟩
  go_wp2_with fail
  refine (HD.out _).mono ?_
  rintro e w2 ⟨rfl, h2⟩
  have B2 := Lib.hid h2
  clear h2
  go_wp2_with fail
  refine (size_of a ta _ HTA.out (by omega)).mono ?_
  rintro e w1 ⟨rfl, rfl⟩
  go_wp2_with fail
  refine (size_of b tb _ HTB.out (by omega)).mono ?_
  rintro e w1 ⟨rfl, rfl⟩
  go_wp2_with fail
  refine (lives_any _ (HL.out.below B2.out)).mono ?_
  rintro e w3 ⟨rfl, h3⟩
  have B3 := Lib.hid (B2.out.trans (h3.mono B2.out.size))
  clear h3
  go_wp2_with fail
  go_ret
  exact ⟨rfl, B3.out⟩

set_option maxHeartbeats 400000 in
theorem divides_1q (a b r q f : Int) (w : World) (L : LaidW w)
    (hM : ∀ w, Calls Tryd.prog 13 #[.int .i64 a, .int .i64 b] w fun e w' => e = .returned (.tuple #[.int .i64 r, .int .i64 0]) ∧ w = w')
    (hD : ∀ w, Calls Tryd.prog 14 #[.int .i64 a, .int .i64 b] w fun e w' => e = .returned (.tuple #[.int .i64 q, .int .i64 f]) ∧ Below w.heap.size w w')
    (hr : (r != 0) = true) (sg : Bool) (hs1 : decide (r < 0) = sg) (hs2 : decide (b < 0) = sg) (sr sb : Int) (hsr : (r.natAbs : Int) = sr) (hsb : (b.natAbs : Int) = sb) (hlt : sr < sb) (hsb1 : sb ≤ 1000000000000000000)
    (hf : (f != 0) = false) (ta tb tq : Int) (hta : (a.natAbs : Int) = ta) (htb : (b.natAbs : Int) = tb) (htq : (q.natAbs : Int) = tq) (htq1 : tq ≤ 1000000000000000000) (ha : ta ≤ 1000000000000) (hb : tb ≤ 1000000000) (hq : 1000000000 < tq) :
    Calls Tryd.prog 4 #[.int .i64 a, .int .i64 b] w fun e w' => e = .returned (.bool true) ∧ Below w.heap.size w w' := by
  have HM := Lib.hid hM
  have HD := Lib.hid hD
  have HL := Lib.hid L
  have HSR := Lib.hid hsr
  have HSB := Lib.hid hsb
  have hge : decide (sb ≤ sr) = false := decide_eq_false (by omega)
  have HTA := Lib.hid hta
  have HTB := Lib.hid htb
  have HTQ := Lib.hid htq
  have na : decide (1000000000000 < ta) = false := decide_eq_false (by omega)
  have nb : decide (1000000000 < tb) = false := decide_eq_false (by omega)
  clear hM hD L hsr hsb hta htb htq
  go_enter Tryd.func4, Tryd.ntmps4
  go_wp2_with fail
  refine (HM.out _).mono ?_
  rintro e w1 ⟨rfl, rfl⟩
  go_wp2_with fail
  refine (size_of r sr _ HSR.out (by omega)).mono ?_
  rintro e w1 ⟨rfl, rfl⟩
  go_wp2_with fail
  refine (size_of b sb _ HSB.out (by omega)).mono ?_
  rintro e w1 ⟨rfl, rfl⟩
  go_wp2_with fail
  refine (HD.out _).mono ?_
  rintro e w2 ⟨rfl, h2⟩
  have B2 := Lib.hid h2
  clear h2
  go_wp2_with fail
  refine (size_of a ta _ HTA.out (by omega)).mono ?_
  rintro e w1 ⟨rfl, rfl⟩
  go_wp2_with fail
  refine (size_of b tb _ HTB.out (by omega)).mono ?_
  rintro e w1 ⟨rfl, rfl⟩
  go_wp2_with fail
  refine (size_of q tq _ HTQ.out (by omega)).mono ?_
  rintro e w1 ⟨rfl, rfl⟩
  go_wp2_with fail
  refine (lives_any _ (HL.out.below B2.out)).mono ?_
  rintro e w3 ⟨rfl, h3⟩
  have B3 := Lib.hid (B2.out.trans (h3.mono B2.out.size))
  clear h3
  go_wp2_with fail
  go_ret
  exact ⟨rfl, B3.out⟩

set_option maxHeartbeats 400000 in
theorem divides_1z (a b r q f : Int) (w : World) (L : LaidW w)
    (hM : ∀ w, Calls Tryd.prog 13 #[.int .i64 a, .int .i64 b] w fun e w' => e = .returned (.tuple #[.int .i64 r, .int .i64 0]) ∧ w = w')
    (hD : ∀ w, Calls Tryd.prog 14 #[.int .i64 a, .int .i64 b] w fun e w' => e = .returned (.tuple #[.int .i64 q, .int .i64 f]) ∧ Below w.heap.size w w')
    (hr : (r != 0) = true) (sg : Bool) (hs1 : decide (r < 0) = sg) (hs2 : decide (b < 0) = sg) (sr sb : Int) (hsr : (r.natAbs : Int) = sr) (hsb : (b.natAbs : Int) = sb) (hlt : sr < sb) (hsb1 : sb ≤ 1000000000000000000)
    (hf : (f != 0) = false) (ta tb tq g : Int) (hta : (a.natAbs : Int) = ta) (htb : (b.natAbs : Int) = tb) (htq : (q.natAbs : Int) = tq) (ha : ta ≤ 1000000000000) (hb : tb ≤ 1000000000) (hq : tq ≤ 1000000000) (_hqb1 : -1000000000000000000 ≤ q * b) (_hqb2 : q * b ≤ 1000000000000000000) (hg : ((a * 1000000 - q * b).natAbs : Int) = g) (_hg0 : 0 ≤ g) (hg1 : 2 * g ≤ tb) (_ha1 : -1000000000000 ≤ a) (_ha2 : a ≤ 1000000000000) :
    Calls Tryd.prog 4 #[.int .i64 a, .int .i64 b] w fun e w' => e = .returned (.bool true) ∧ Below w.heap.size w w' := by
  have HM := Lib.hid hM
  have HD := Lib.hid hD
  have HL := Lib.hid L
  have HSR := Lib.hid hsr
  have HSB := Lib.hid hsb
  have hge : decide (sb ≤ sr) = false := decide_eq_false (by omega)
  have HTA := Lib.hid hta
  have HTB := Lib.hid htb
  have HTQ := Lib.hid htq
  have HG := Lib.hid hg
  have na : decide (1000000000000 < ta) = false := decide_eq_false (by omega)
  have nb : decide (1000000000 < tb) = false := decide_eq_false (by omega)
  have nq : decide (1000000000 < tq) = false := decide_eq_false (by omega)
  clear hM hD L hsr hsb hta htb htq hg
  go_enter Tryd.func4, Tryd.ntmps4
  go_wp2_with fail
  refine (HM.out _).mono ?_
  rintro e w1 ⟨rfl, rfl⟩
  go_wp2_with fail
  refine (size_of r sr _ HSR.out (by omega)).mono ?_
  rintro e w1 ⟨rfl, rfl⟩
  go_wp2_with fail
  refine (size_of b sb _ HSB.out (by omega)).mono ?_
  rintro e w1 ⟨rfl, rfl⟩
  go_wp2_with fail
  refine (HD.out _).mono ?_
  rintro e w2 ⟨rfl, h2⟩
  have B2 := Lib.hid h2
  clear h2
  go_wp2_with fail
  refine (size_of a ta _ HTA.out (by omega)).mono ?_
  rintro e w1 ⟨rfl, rfl⟩
  go_wp2_with fail
  refine (size_of b tb _ HTB.out (by omega)).mono ?_
  rintro e w1 ⟨rfl, rfl⟩
  go_wp2_with fail
  refine (size_of q tq _ HTQ.out (by omega)).mono ?_
  rintro e w1 ⟨rfl, rfl⟩
  go_wp2_with fail
  refine (size_of (a * 1000000 - q * b) g _ HG.out (by omega)).mono ?_
  rintro e w1 ⟨rfl, rfl⟩
  go_wp2_with fail
  refine (size_of b tb _ HTB.out (by omega)).mono ?_
  rintro e w1 ⟨rfl, rfl⟩
  go_wp2_with fail
  refine (lives_any _ (HL.out.below B2.out)).mono ?_
  rintro e w3 ⟨rfl, h3⟩
  have B3 := Lib.hid (B2.out.trans (h3.mono B2.out.size))
  clear h3
  go_wp2_with fail
  go_ret
  exact ⟨rfl, B3.out⟩

/-! ### The plain law -/
theorem modX_parts (a b : Int) (ha : fitsB a = true) (hb : fitsB b = true) (hz : b ≠ 0) : modX a b = (a.tmod b + b).tmod b ∧ modE a b = 0 := by
  have hz' : (b == 0) = false := beq_eq_false_iff_ne.2 hz
  constructor
  · unfold modX; rw [ha, hb, hz']; rfl
  · unfold modE; rw [ha, hb, hz']; rfl
theorem mod_law (a b : Int) (hz : b ≠ 0) : ((a.tmod b + b).tmod b).natAbs < b.natAbs ∧ (0 < b → 0 ≤ (a.tmod b + b).tmod b) ∧ (b < 0 → (a.tmod b + b).tmod b ≤ 0) := by
  have h1 := Int.natAbs_tmod a b
  have h2 := Nat.mod_lt a.natAbs (show 0 < b.natAbs by omega)
  have h3 := Int.natAbs_tmod (a.tmod b + b) b
  have h4 := Nat.mod_lt (a.tmod b + b).natAbs (show 0 < b.natAbs by omega)
  refine ⟨by omega, fun hb => Int.tmod_nonneg b (by omega), fun hb => ?_⟩
  have h5 := Int.tmod_nonneg b (show 0 ≤ -(a.tmod b + b) by omega)
  rw [Int.neg_tmod] at h5
  omega
theorem putB_true (x : Int) : putB true x = -x := rfl
theorem putB_false (x : Int) : putB false x = x := rfl
theorem divide_law (a b : Int) (hz : b ≠ 0) (ok : ovB (divN a / (b.natAbs : Int)) (divN a % (b.natAbs : Int)) (b.natAbs : Int) = true) :
    2 * ((a * 1000000 - putB (minusB a b) (ovX (divN a / (b.natAbs : Int)) (divN a % (b.natAbs : Int)) (b.natAbs : Int)) * b).natAbs : Int) ≤ (b.natAbs : Int) := by
  have hN : 0 ≤ divN a := by unfold divN; omega
  have hb : 1 ≤ (b.natAbs : Int) := by omega
  have hq0 : 0 ≤ divN a / (b.natAbs : Int) := Int.ediv_nonneg hN (by omega)
  have hr0 : 0 ≤ divN a % (b.natAbs : Int) := Int.emod_nonneg _ (by omega)
  have hr1 : divN a % (b.natAbs : Int) < (b.natAbs : Int) := Int.emod_lt_of_pos _ (by omega)
  have hd : divN a / (b.natAbs : Int) * (b.natAbs : Int) + divN a % (b.natAbs : Int) = divN a := by rw [Int.mul_comm]; exact Int.mul_ediv_add_emod _ _
  have h2 : rndI (divN a / (b.natAbs : Int)) (divN a % (b.natAbs : Int)) (b.natAbs : Int) ≤ 1000000000000000000 := by unfold ovB at ok; exact of_decide_eq_true ok
  have hx : ovX (divN a / (b.natAbs : Int)) (divN a % (b.natAbs : Int)) (b.natAbs : Int) = rndI (divN a / (b.natAbs : Int)) (divN a % (b.natAbs : Int)) (b.natAbs : Int) := by
    have h3 : divN a / (b.natAbs : Int) ≤ rndI (divN a / (b.natAbs : Int)) (divN a % (b.natAbs : Int)) (b.natAbs : Int) := by
      unfold rndI; cases upB (divN a / (b.natAbs : Int)) (divN a % (b.natAbs : Int)) (b.natAbs : Int) <;> simp only [cond_true, cond_false] <;> omega
    unfold ovX; rw [decide_eq_true (by omega), cond_true]
  rw [hx]
  -- the sign is taken out
  have hs : ∀ x : Int, ((a * 1000000 - putB (minusB a b) x * b).natAbs : Int) = ((divN a - x * (b.natAbs : Int)).natAbs : Int) := by
    intro x
    unfold minusB divN
    by_cases h1 : a < 0
    · have e1 : (a.natAbs : Int) = -a := by omega
      by_cases h2 : b < 0
      · have e2 : (b.natAbs : Int) = -b := by omega
        rw [decide_eq_true h1, decide_eq_true h2, bne_self_eq_false, putB_false, e1, e2, Int.mul_neg]; omega
      · have e2 : (b.natAbs : Int) = b := by omega
        rw [decide_eq_true h1, decide_eq_false h2, Bool.bne_false, putB_true, e1, e2, Int.neg_mul]; omega
    · have e1 : (a.natAbs : Int) = a := by omega
      by_cases h2 : b < 0
      · have e2 : (b.natAbs : Int) = -b := by omega
        rw [decide_eq_false h1, decide_eq_true h2, Bool.bne_true, Bool.not_false, putB_true, e1, e2, Int.mul_neg, Int.neg_mul]
      · have e2 : (b.natAbs : Int) = b := by omega
        rw [decide_eq_false h1, decide_eq_false h2, bne_self_eq_false, putB_false, e1, e2]
  rw [hs]
  have hup : ∀ {q r y : Int}, upB q r y = true ↔ (y - r < r ∨ (r = y - r ∧ q % 2 = 1)) := by
    intro q r y; unfold upB; rw [Bool.or_eq_true, Bool.and_eq_true, decide_eq_true_iff, decide_eq_true_iff, decide_eq_true_iff]
  unfold rndI
  generalize hq : divN a / (b.natAbs : Int) = q at *
  generalize hr : divN a % (b.natAbs : Int) = r at *
  cases hu : upB q r (b.natAbs : Int) with
  | true =>
    have hu' := hup.1 hu
    simp only [cond_true]
    have hm : (q + 1) * (b.natAbs : Int) = q * (b.natAbs : Int) + (b.natAbs : Int) := by rw [Int.add_mul, Int.one_mul]
    omega
  | false =>
    have hu' : ¬ ((b.natAbs : Int) - r < r ∨ (r = (b.natAbs : Int) - r ∧ q % 2 = 1)) := fun h => by rw [hup.2 h] at hu; cases hu
    simp only [cond_false]
    omega

theorem divides_any (a b : Int) (w : World) (L : LaidW w) :
    Calls Tryd.prog 4 #[.int .i64 a, .int .i64 b] w fun e w' => e = .returned (.bool true) ∧ Below w.heap.size w w' := by
  cases ha : fitsB a with
  | false =>
    refine divides_no a b 2 w L (by decide) fun w => ?_
    have h := mod_any a b w
    rwa [show modX a b = 0 by unfold modX; rw [ha]; rfl, show modE a b = 2 by unfold modE; rw [ha]; rfl] at h
  | true =>
    cases hb : fitsB b with
    | false =>
      refine divides_no a b 2 w L (by decide) fun w => ?_
      have h := mod_any a b w
      rwa [show modX a b = 0 by unfold modX; rw [ha, hb]; rfl, show modE a b = 2 by unfold modE; rw [ha, hb]; rfl] at h
    | true =>
      by_cases hz : b = 0
      · have hz' : (b == 0) = true := beq_iff_eq.2 hz
        refine divides_no a b 4 w L (by decide) fun w => ?_
        have h := mod_any a b w
        rwa [show modX a b = 0 by unfold modX; rw [ha, hb, hz']; rfl, show modE a b = 4 by unfold modE; rw [ha, hb, hz']; rfl] at h
      · obtain ⟨a1, a2⟩ := fitsB_bounds ha
        obtain ⟨b1, b2⟩ := fitsB_bounds hb
        have hz' : (b == 0) = false := beq_eq_false_iff_ne.2 hz
        obtain ⟨m1, m2⟩ := modX_parts a b ha hb hz
        obtain ⟨l1, l2, l3⟩ := mod_law a b hz
        have hM := fun w => mod_any a b w
        rw [m1, m2] at hM
        generalize (a.tmod b + b).tmod b = r at *
        -- the quotient
        have hD := fun w => div_any a b w
        have hDx : divX a b = (bif ovB (divN a / (b.natAbs : Int)) (divN a % (b.natAbs : Int)) (b.natAbs : Int) then putB (minusB a b) (ovX (divN a / (b.natAbs : Int)) (divN a % (b.natAbs : Int)) (b.natAbs : Int)) else 0) := by unfold divX; rw [ha, hb, hz', Bool.and_self, cond_true, cond_false]
        have hDe : divE a b = (bif ovB (divN a / (b.natAbs : Int)) (divN a % (b.natAbs : Int)) (b.natAbs : Int) then 0 else 3) := by unfold divE; rw [ha, hb, hz', Bool.and_self, cond_true, cond_false]
        rw [hDx, hDe] at hD
        clear hDx hDe m1 m2
        have hq0 : 0 ≤ divN a / (b.natAbs : Int) := Int.ediv_nonneg (by unfold divN; omega) (by omega)
        have hlaw := divide_law a b hz
        have hbx := @ovX_bounds (divN a / (b.natAbs : Int)) (divN a % (b.natAbs : Int)) (b.natAbs : Int) hq0
        clear hq0
        generalize ovB (divN a / (b.natAbs : Int)) (divN a % (b.natAbs : Int)) (b.natAbs : Int) = ok at *
        generalize ovX (divN a / (b.natAbs : Int)) (divN a % (b.natAbs : Int)) (b.natAbs : Int) = x at *
        cases ok with
        | false =>
          simp only [cond_false] at hD
          by_cases hr : r = 0
          · exact divides_0f a b r 0 3 w L hM hD (by rw [hr]; rfl) (by decide)
          · exact divides_1f a b r 0 3 w L hM hD (bne_iff_ne.2 hr) (decide (b < 0)) (by rw [decide_eq_decide]; omega) rfl _ _ rfl rfl (by omega) (by omega) (by decide)
        | true =>
          simp only [cond_true] at hD
          have hlaw := hlaw rfl
          have hbx := hbx rfl
          obtain ⟨q1, q2⟩ := putB_bounds (minusB a b) x _ hbx.1 hbx.2
          generalize putB (minusB a b) x = q at *
          have hqb := Int.natAbs_mul q b
          by_cases c1 : 1000000000000 < (a.natAbs : Int)
          · by_cases hr : r = 0
            · exact divides_0a a b r q 0 w L hM hD (by rw [hr]; rfl) (by decide) _ rfl (by omega) c1
            · exact divides_1a a b r q 0 w L hM hD (bne_iff_ne.2 hr) (decide (b < 0)) (by rw [decide_eq_decide]; omega) rfl _ _ rfl rfl (by omega) (by omega) (by decide) _ rfl (by omega) c1
          · by_cases c2 : 1000000000 < (b.natAbs : Int)
            · by_cases hr : r = 0
              · exact divides_0b a b r q 0 w L hM hD (by rw [hr]; rfl) (by decide) _ _ rfl rfl (by omega) (by omega) c2
              · exact divides_1b a b r q 0 w L hM hD (bne_iff_ne.2 hr) (decide (b < 0)) (by rw [decide_eq_decide]; omega) rfl _ _ rfl rfl (by omega) (by omega) (by decide) _ _ rfl rfl (by omega) (by omega) c2
            · by_cases c3 : 1000000000 < (q.natAbs : Int)
              · by_cases hr : r = 0
                · exact divides_0q a b r q 0 w L hM hD (by rw [hr]; rfl) (by decide) _ _ _ rfl rfl rfl (by omega) (by omega) (by omega) c3
                · exact divides_1q a b r q 0 w L hM hD (bne_iff_ne.2 hr) (decide (b < 0)) (by rw [decide_eq_decide]; omega) rfl _ _ rfl rfl (by omega) (by omega) (by decide) _ _ _ rfl rfl rfl (by omega) (by omega) (by omega) c3
              · have hm : q.natAbs * b.natAbs ≤ 1000000000 * 1000000000 := Nat.mul_le_mul (by omega) (by omega)
                by_cases hr : r = 0
                · exact divides_0z a b r q 0 w L hM hD (by rw [hr]; rfl) (by decide) _ _ _ _ rfl rfl rfl (by omega) (by omega) (by omega) (by omega) (by omega) rfl (by omega) hlaw (by omega) (by omega)
                · exact divides_1z a b r q 0 w L hM hD (bne_iff_ne.2 hr) (decide (b < 0)) (by rw [decide_eq_decide]; omega) rfl _ _ rfl rfl (by omega) (by omega) (by decide) _ _ _ _ rfl rfl rfl (by omega) (by omega) (by omega) (by omega) (by omega) rfl (by omega) hlaw (by omega) (by omega)
end Go.Proofs.YtmepocffafcibaaDoor
