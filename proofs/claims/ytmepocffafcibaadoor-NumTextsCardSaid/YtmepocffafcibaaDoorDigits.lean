/-
  Digits OF THE REFERENCE: the decimal digits of a number that is not below 0; of what was there nothing is turned.
-/
import Derived.Test.YtmepocffafcibaaDoorText
import Derived.Laws.IdiomStrings
namespace Go.Proofs.YtmepocffafcibaaDoor
open Go.RowKit

theorem und79 : Tryd.prog.underlying 79 = some (.slice 5) := by kernel_rfl
theorem und5 : Tryd.prog.underlying 5 = some (.int .u8) := by kernel_rfl
theorem und9 : Tryd.prog.underlying 9 = some .string := by kernel_rfl
theorem one_byte (w : World) (i : Nat) (h : i < 10) (cap : Nat) (n : Int) (hn : n = 48 + (i : Int)) (b : UInt8) (hb0 : UInt8.ofNat (48 + i) = b) :
    (convert 79 9 (.slice (some ⟨w.heap.size, 0, none⟩) 1 cap)).run Tryd.prog (w.alloc (.cells #[.int .u8 n] 5)) = .ok (.string ⟨#[b]⟩) (w.alloc (.cells #[.int .u8 n] 5)) := by
  subst hb0
  have hb : ((UInt8.ofNat (48 + i)).toNat : Int) = n := by rw [UInt8.toNat_ofNat']; omega
  refine run_convert_bytes_back (P := Tryd.prog) (w.alloc (.cells #[.int .u8 n] 5)) 79 9 5 ⟨w.heap.size, 0, none⟩ cap [UInt8.ofNat (48 + i)] und79 und5 und9 ?_
  intro j hj
  have hj0 : j = 0 := by simpa using hj
  subst hj0
  have hc := World.cell?_alloc_mark w #[.int .u8 n] 5 (0, 0) 0
  rw [show (#[.int .u8 n] : Array Value)[0]? = some (.int .u8 n) from rfl, ← hb] at hc
  rw [← hb]
  exact hc
theorem below_alloc (w : World) (o : Obj) : Below w.heap.size w (w.alloc o) :=
  (Below.refl _ _).alloc (Nat.le_refl _) o

set_option maxRecDepth 100000 in
theorem rdigits_small (n : Int) (i : Nat) (w : World) (h0 : n % 10 = (i : Int)) (h1 : n < 10) (h2 : 0 ≤ n) (hi : i < 10) (b : UInt8) (hb : UInt8.ofNat (48 + i) = b) :
    Calls Tryd.prog 45 #[.int .i64 n] w fun e w' => e = .returned (.string ⟨#[b]⟩) ∧ Below w.heap.size w w' := by
  have HB := Lib.hid (one_byte w i hi 1 (48 + (i : Int)) rfl b hb)
  clear hb
  have HW := Lib.hid (below_alloc w (.cells #[.int .u8 (48 + (i : Int))] 5))
  go_enter Tryd.func45, Tryd.ntmps45
  go_wp2_with fail
  rw [HB.out]
  go_wp2_with fail
  go_ret
  exact ⟨rfl, HW.out⟩
set_option maxRecDepth 100000 in
theorem rdigits_big (n : Int) (i : Nat) (d : List UInt8) (w : World) (h0 : n % 10 = (i : Int)) (h1 : ¬ n < 10) (h2 : n ≤ 9223372036854775807) (hi : i < 10) (hd : d.length ≤ 20) (b : UInt8) (hb : UInt8.ofNat (48 + i) = b)
    (hI : ∀ w, Calls Tryd.prog 45 #[.int .i64 (n / 10)] w fun e w' => e = .returned (.string ⟨d.toArray⟩) ∧ Below w.heap.size w w') :
    Calls Tryd.prog 45 #[.int .i64 n] w fun e w' => e = .returned (.string ⟨(d ++ [b]).toArray⟩) ∧ Below w.heap.size w w' := by
  have HI := Lib.hid hI
  clear hI
  have HB := Lib.hid (one_byte w i hi 1 (48 + (i : Int)) rfl b hb)
  clear hb
  have HW := Lib.hid (below_alloc w (.cells #[.int .u8 (48 + (i : Int))] 5))
  go_enter Tryd.func45, Tryd.ntmps45
  go_wp2_with fail
  rw [HB.out]
  go_wp2_with fail
  refine (HI.out _).mono ?_
  rintro e w2 ⟨rfl, h2⟩
  have B2 := Lib.hid (HW.out.trans (h2.mono HW.out.size))
  clear h2
  go_wp2_with fail
  go_ret
  exact ⟨congrArg (fun x => Ending.returned (.string x)) (ba_append d [b]), B2.out⟩

theorem rdigits_any (u : Nat) (h : u ≤ 1000000000000000000) : ∀ w, Calls Tryd.prog 45 #[.int .i64 (u : Int)] w fun e w' => e = .returned (.string ⟨(Lib.decDigits u).toArray⟩) ∧ Below w.heap.size w w' := by
  induction u using Nat.strongRecOn with
  | _ u ih =>
    intro w
    by_cases hu : u < 10
    · rw [Lib.decDigits_one hu]
      exact rdigits_small (u : Int) u w (by omega) (by omega) (by omega) hu _ rfl
    · have hI := ih (u / 10) (by omega) (by omega)
      rw [show ((u / 10 : Nat) : Int) = (u : Int) / 10 by omega] at hI
      rw [Lib.decDigits, dif_neg hu]
      refine rdigits_big (u : Int) (u % 10) (Lib.decDigits (u / 10)) w (by omega) (by omega) (by omega) (by omega) ?_ _ rfl hI
      have h1 := nDigits_le 18 (u / 10) (by omega)
      rw [Lib.decDigits_length]; omega
end Go.Proofs.YtmepocffafcibaaDoor
