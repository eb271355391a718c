/-
  num.Parse AT EVERY TEXT: what it returns is 'parP'; of what was there nothing is turned.
-/
import Derived.Test.YtmepocffafcibaaDoorParse
import Derived.Test.YtmepocffafcibaaDoorSame
namespace Go.Proofs.YtmepocffafcibaaDoor
open Go.RowKit

/-- What Parse tells. -/
def parP (l : List UInt8) : Int × Int := if 40 < l.length then (0, 5) else rparS (Lib.hasPrefix l [45]) (Lib.trimPrefix l [45])

theorem cutPrefix_any (l : List UInt8) (w : World) :
    Calls Tryd.prog 36 #[.string ⟨l.toArray⟩, .string ⟨#[45]⟩] w fun e w' => e = .returned (.tuple #[.string ⟨(Lib.trimPrefix l [45]).toArray⟩, .bool (Lib.hasPrefix l [45])]) ∧ w = w' :=
  (Tryd.strings_CutPrefix ⟨l.toArray⟩ ⟨#[45]⟩ w).mono fun _ _ ⟨h, g⟩ => ⟨h, g.symm⟩
theorem cut_any (t wh pt : List UInt8) (more : Bool) (ht : t.length ≤ 1000) (hc : Lib.cut t [46] = (wh, pt, more)) (w : World) (L : LaidW w) :
    Calls Tryd.prog 37 #[.string ⟨t.toArray⟩, .string ⟨#[46]⟩] w fun e w' => e = .returned (.tuple #[.string ⟨wh.toArray⟩, .string ⟨pt.toArray⟩, .bool more]) ∧ ∃ n, w.drewN n = w' := by
  obtain ⟨m, hm⟩ := L.maxLen
  have h := Tryd.strings_Cut ⟨t.toArray⟩ ⟨#[46]⟩ m w (by rw [Lib.size_mk]; omega) hm
  have e : Lib.cut (⟨t.toArray⟩ : ByteArray).data.toList (⟨#[46]⟩ : ByteArray).data.toList = (wh, pt, more) := hc
  rw [e] at h
  exact h.mono fun _ _ ⟨h, n, g⟩ => ⟨h, n, g.symm⟩
theorem trimLeft_any (l : List UInt8) (w : World) :
    Calls Tryd.prog 39 #[.string ⟨l.toArray⟩, .string ⟨#[48]⟩] w fun e w' => e = .returned (.string ⟨(Lib.trimLeftB l 48).toArray⟩) ∧ w = w' :=
  (Tryd.strings_TrimLeft_one ⟨l.toArray⟩ 48 (by decide) w).mono fun _ _ ⟨h, g⟩ => ⟨h, g.symm⟩
theorem parseUint_any (l : List UInt8) (u : Nat) (hl : l.length ≤ 1000) (h : Lib.parseUintB 64 l = .ok u) (w : World) :
    Calls Tryd.prog 40 #[.string ⟨l.toArray⟩, .int .i64 10, .int .i64 64] w fun e w' => e = .returned (.tuple #[.int .u64 (u : Int), .nilIface]) ∧ Below w.heap.size w w' :=
  (Tryd.strconv_ParseUint_10_at64_ok ⟨l.toArray⟩ (by rw [Lib.size_mk]; omega) u h w).mono fun _ _ ⟨h, g⟩ => ⟨h, by
    rcases g with g | g
    · rw [g]; exact Below.refl _ _
    · rw [g]; exact Lib.bytesWorld_below _ _ _⟩
theorem trimPrefix_length (l : List UInt8) : (Lib.trimPrefix l [45]).length ≤ l.length := by
  unfold Lib.trimPrefix; split
  · rw [List.length_drop]; omega
  · exact Nat.le_refl _
theorem trimLeftB_length (l : List UInt8) (c : UInt8) : (Lib.trimLeftB l c).length ≤ l.length := (List.dropWhile_sublist _).length_le

theorem finS_neg {V F : Nat} (h : ¬ 1000000000000000000 < V * 1000000 + F) : finS true V F = (-((V * 1000000 + F : Nat) : Int), 0) := by rw [finS_in h, cond_true]
theorem finS_pos {V F : Nat} (h : ¬ 1000000000000000000 < V * 1000000 + F) : finS false V F = (((V * 1000000 + F : Nat) : Int), 0) := by rw [finS_in h, cond_false]
theorem parse_any (l : List UInt8) (w : World) (L : LaidW w) :
    Calls Tryd.prog 25 #[.string ⟨l.toArray⟩] w fun e w' => e = .returned (.tuple #[.int .i64 (parP l).1, .int .i64 (parP l).2]) ∧ Below w.heap.size w w' := by
  unfold parP
  by_cases hl : 40 < l.length
  · rw [if_pos hl]
    exact parse_long l w (by omega)
  rw [if_neg hl]
  have hCP := cutPrefix_any l
  have htl := trimPrefix_length l
  generalize Lib.trimPrefix l [45] = t at *
  generalize Lib.hasPrefix l [45] = minus at *
  have hl40 : l.length ≤ 40 := by omega
  rcases point t with h46 | ⟨wh, pt, rfl, h46⟩
  · -- no point
    obtain ⟨pt, hpt⟩ : ∃ pt : List UInt8, pt = [] := ⟨[], rfl⟩
    have hC := fun w L => cut_any t t pt false (by omega) (by rw [hpt]; exact cut_none t h46) w L
    have hD1 := fun w => digits_any t w (by omega)
    have hpl : pt.length = 0 := by rw [hpt]; rfl
    have hpa : allD pt = true := by rw [hpt]; rfl
    have hF0 : valD pt * 10 ^ (6 - pt.length) = 0 := by rw [hpt, valD_nil, Nat.zero_mul]
    clear hpt
    cases hd : digB t with
    | false =>
      rw [hd] at hD1
      have e0 : rparS minus t = (0, 5) := by
        have := rpar_head minus t [] h46 (Or.inl rfl) hd
        rwa [List.append_nil] at this
      rw [e0]
      exact parse_s1 l t t pt w L hl40 false minus hCP hC hD1
    | true =>
      rw [hd] at hD1
      have ha := (digB_parts hd).2
      rw [rpar_whole minus t hd, ← hF0]
      by_cases hz : 13 < (Lib.trimLeftB t 48).length
      · have hbig := trimLeft_big t ha hz
        rw [finS_over (by omega)]
        exact parse_0o1 l t t pt (Lib.trimLeftB t 48) w L hl40 minus hCP hC hD1 (by omega) (trimLeft_any t) (by omega)
      · obtain ⟨hu, hb⟩ := num_text (Lib.trimLeftB t 48) pt (trimLeft_all t ha) hpa (by omega) (by omega)
        rw [trimLeft_val] at hu hb
        have hPU := parseUint_any _ _ (by rw [List.length_append, List.length_cons, List.length_take]; omega) hu
        clear hF0
        generalize valD pt * 10 ^ (6 - pt.length) = F at *
        by_cases hN : 1000000000000000000 < valD t * 1000000 + F
        · rw [finS_over hN]
          exact parse_0o2 l t t pt (Lib.trimLeftB t 48) (48 :: Lib.trimLeftB t 48) (pt ++ sixZ) ((pt ++ sixZ).take 6) _ ((valD t * 1000000 + F : Nat) : Int) w L hl40 minus hCP hC hD1 (by omega) (trimLeft_any t) (by omega) (ba_append [48] _) (ba_append pt sixZ) (by rw [List.length_append]; show 6 ≤ pt.length + 6; omega) (by rw [Lib.extract_mk]; rfl) (ba_append _ _) (by rw [List.length_cons]; omega) (by rw [List.length_take]; omega) hPU (by omega)
        · cases minus with
          | true =>
            rw [finS_neg hN]
            exact parse_0m l t t pt (Lib.trimLeftB t 48) (48 :: Lib.trimLeftB t 48) (pt ++ sixZ) ((pt ++ sixZ).take 6) _ ((valD t * 1000000 + F : Nat) : Int) w L hl40 hCP hC hD1 (by omega) (trimLeft_any t) (by omega) (ba_append [48] _) (ba_append pt sixZ) (by rw [List.length_append]; show 6 ≤ pt.length + 6; omega) (by rw [Lib.extract_mk]; rfl) (ba_append _ _) (by rw [List.length_cons]; omega) (by rw [List.length_take]; omega) hPU (by omega) (by omega)
          | false =>
            rw [finS_pos hN]
            exact parse_0p l t t pt (Lib.trimLeftB t 48) (48 :: Lib.trimLeftB t 48) (pt ++ sixZ) ((pt ++ sixZ).take 6) _ ((valD t * 1000000 + F : Nat) : Int) w L hl40 hCP hC hD1 (by omega) (trimLeft_any t) (by omega) (ba_append [48] _) (ba_append pt sixZ) (by rw [List.length_append]; show 6 ≤ pt.length + 6; omega) (by rw [Lib.extract_mk]; rfl) (ba_append _ _) (by rw [List.length_cons]; omega) (by rw [List.length_take]; omega) hPU (by omega) (by omega)
  · -- a point
    have hlen : (wh ++ 46 :: pt).length = wh.length + (pt.length + 1) := by rw [List.length_append, List.length_cons]
    have hC := fun w L => cut_any (wh ++ 46 :: pt) wh pt true (by omega) (cut_at wh pt h46) w L
    have hD1 := fun w => digits_any wh w (by omega)
    have hD2 := fun w => digits_any pt w (by omega)
    cases hd : digB wh with
    | false =>
      rw [hd] at hD1
      rw [rpar_head minus wh (46 :: pt) h46 (Or.inr ⟨pt, rfl⟩) hd]
      exact parse_s1 l _ wh pt w L hl40 true minus hCP hC hD1
    | true =>
      rw [hd] at hD1
      have ha := (digB_parts hd).2
      cases hp : digB pt with
      | false =>
        rw [hp] at hD2
        rw [rpar_nopart minus wh pt hd (Or.inl hp)]
        exact parse_s2 l _ wh pt w L hl40 minus hCP hC hD1 hD2
      | true =>
        rw [hp] at hD2
        have hpa := (digB_parts hp).2
        by_cases h6 : 6 < pt.length
        · rw [rpar_nopart minus wh pt hd (Or.inr h6)]
          exact parse_s3 l _ wh pt w L hl40 minus hCP hC hD1 hD2 (by omega)
        · rw [rpar_part minus wh pt hd hp (by omega)]
          by_cases hz : 13 < (Lib.trimLeftB wh 48).length
          · have hbig := trimLeft_big wh ha hz
            rw [finS_over (by omega)]
            exact parse_1o1 l _ wh pt (Lib.trimLeftB wh 48) w L hl40 minus hCP hC hD1 hD2 (by omega) (trimLeft_any wh) (by omega)
          · obtain ⟨hu, hb⟩ := num_text (Lib.trimLeftB wh 48) pt (trimLeft_all wh ha) hpa (by omega) (by omega)
            rw [trimLeft_val] at hu hb
            have hPU := parseUint_any _ _ (by rw [List.length_append, List.length_cons, List.length_take]; omega) hu
            generalize valD pt * 10 ^ (6 - pt.length) = F at *
            by_cases hN : 1000000000000000000 < valD wh * 1000000 + F
            · rw [finS_over hN]
              exact parse_1o2 l _ wh pt (Lib.trimLeftB wh 48) (48 :: Lib.trimLeftB wh 48) (pt ++ sixZ) ((pt ++ sixZ).take 6) _ ((valD wh * 1000000 + F : Nat) : Int) w L hl40 minus hCP hC hD1 hD2 (by omega) (trimLeft_any wh) (by omega) (ba_append [48] _) (ba_append pt sixZ) (by rw [List.length_append]; show 6 ≤ pt.length + 6; omega) (by rw [Lib.extract_mk]; rfl) (ba_append _ _) (by rw [List.length_cons]; omega) (by rw [List.length_take]; omega) hPU (by omega)
            · cases minus with
              | true =>
                rw [finS_neg hN]
                exact parse_1m l _ wh pt (Lib.trimLeftB wh 48) (48 :: Lib.trimLeftB wh 48) (pt ++ sixZ) ((pt ++ sixZ).take 6) _ ((valD wh * 1000000 + F : Nat) : Int) w L hl40 hCP hC hD1 hD2 (by omega) (trimLeft_any wh) (by omega) (ba_append [48] _) (ba_append pt sixZ) (by rw [List.length_append]; show 6 ≤ pt.length + 6; omega) (by rw [Lib.extract_mk]; rfl) (ba_append _ _) (by rw [List.length_cons]; omega) (by rw [List.length_take]; omega) hPU (by omega) (by omega)
              | false =>
                rw [finS_pos hN]
                exact parse_1p l _ wh pt (Lib.trimLeftB wh 48) (48 :: Lib.trimLeftB wh 48) (pt ++ sixZ) ((pt ++ sixZ).take 6) _ ((valD wh * 1000000 + F : Nat) : Int) w L hl40 hCP hC hD1 hD2 (by omega) (trimLeft_any wh) (by omega) (ba_append [48] _) (ba_append pt sixZ) (by rw [List.length_append]; show 6 ≤ pt.length + 6; omega) (by rw [Lib.extract_mk]; rfl) (ba_append _ _) (by rw [List.length_cons]; omega) (by rw [List.length_take]; omega) hPU (by omega) (by omega)
end Go.Proofs.YtmepocffafcibaaDoor
