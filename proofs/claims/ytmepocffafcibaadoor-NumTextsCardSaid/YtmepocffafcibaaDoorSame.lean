/-
  THE PLAIN LAW OF Parse: what num's reading gives, cut by cut, is what the reference's reading gives ('rparS'). No program in sight.
-/
import Derived.Test.YtmepocffafcibaaDoorDec
import Derived.Lib.IndexMore
namespace Go.Proofs.YtmepocffafcibaaDoor

/-! ### Values -/
theorem fold_from (l : List UInt8) : ∀ a : Nat, l.foldl (fun a c => 10 * a + (c.toNat - 48)) a = a * 10 ^ l.length + valD l := by
  induction l with
  | nil => intro a; simp [valD]
  | cons c r ih =>
    intro a
    have h2 : valD (c :: r) = (10 * 0 + (c.toNat - 48)) * 10 ^ r.length + valD r := ih _
    rw [List.foldl_cons, ih, h2, List.length_cons, Nat.pow_succ, Nat.add_mul, Nat.add_mul, Nat.mul_comm (10 ^ r.length) 10, ← Nat.mul_assoc, Nat.mul_comm a 10]
    omega
theorem valD_append (a b : List UInt8) : valD (a ++ b) = valD a * 10 ^ b.length + valD b := by
  unfold valD
  rw [List.foldl_append, fold_from]
  rfl
theorem valD_cons (c : UInt8) (r : List UInt8) : valD (c :: r) = (c.toNat - 48) * 10 ^ r.length + valD r := by
  show r.foldl (fun a c => 10 * a + (c.toNat - 48)) (10 * 0 + (c.toNat - 48)) = _
  rw [fold_from, Nat.mul_zero, Nat.zero_add]
theorem valD_zeros (k : Nat) : valD (List.replicate k 48) = 0 := by
  induction k with
  | zero => rfl
  | succ k ih => rw [List.replicate_succ, valD_cons, ih]; simp
theorem trimLeft_val (l : List UInt8) : valD (Lib.trimLeftB l 48) = valD l := by
  unfold Lib.trimLeftB
  induction l with
  | nil => rfl
  | cons c r ih =>
    rw [List.dropWhile_cons]
    by_cases h : c = 48
    · subst h
      rw [if_pos (by decide), ih, valD_cons]; simp
    · rw [if_neg (by simpa using h)]
theorem trimLeft_all (l : List UInt8) (h : allD l = true) : allD (Lib.trimLeftB l 48) = true := by
  unfold allD Lib.trimLeftB at *
  exact List.all_eq_true.2 fun x hx => List.all_eq_true.1 h x ((List.dropWhile_sublist _).subset hx)
theorem trimLeft_big (l : List UInt8) (h : allD l = true) (hl : 13 < (Lib.trimLeftB l 48).length) : 10000000000000 ≤ valD l := by
  rw [← trimLeft_val l]
  have ha := trimLeft_all l h
  have hd : ∀ c r, Lib.trimLeftB l 48 = c :: r → c ≠ 48 := by
    intro c r e hc
    subst hc
    have := dropWhile_head (p := (· == (48 : UInt8))) (l := l) (show l.dropWhile (· == (48 : UInt8)) = 48 :: r from e)
    simp at this
  revert hd ha hl
  cases Lib.trimLeftB l 48 with
  | nil => intro hl; simp at hl
  | cons c r =>
    intro hl ha hd
    have hc := hd c r rfl
    unfold allD at ha
    rw [List.all_cons, Bool.and_eq_true] at ha
    have hb := isDig_bounds ha.1
    have hne : c.toNat ≠ 48 := fun e => hc (UInt8.toNat_inj.1 e)
    rw [valD_cons]
    rw [List.length_cons] at hl
    have h1 : 10 ^ 13 ≤ 10 ^ r.length := Nat.pow_le_pow_right (by omega) (by omega)
    have h2 : 1 * 10 ^ r.length ≤ (c.toNat - 48) * 10 ^ r.length := Nat.mul_le_mul_right _ (by omega)
    omega
where
  dropWhile_head {p : UInt8 → Bool} {l : List UInt8} {c : UInt8} {r : List UInt8} (h : l.dropWhile p = c :: r) : p c = false := by
    induction l with
    | nil => cases h
    | cons x y ih =>
      rw [List.dropWhile_cons] at h
      cases hp : p x with
      | true => rw [if_pos hp] at h; exact ih h
      | false => rw [if_neg (by rw [hp]; simp)] at h; cases h; exact hp

/-- strconv's reading of a row of digits that fits. -/
theorem parse_fold (l : List UInt8) (h : allD l = true) : ∀ acc : Nat, acc * 10 ^ l.length + valD l ≤ 18446744073709551615 → Lib.parseUintM 18446744073709551615 acc l = .ok (acc * 10 ^ l.length + valD l) := by
  induction l with
  | nil => intro acc _; simp [Lib.parseUintM, valD]
  | cons c r ih =>
    intro acc hle
    unfold allD at h
    rw [List.all_cons, Bool.and_eq_true] at h
    have hb := isDig_bounds h.1
    have e : acc * 10 ^ (c :: r).length + valD (c :: r) = (acc * 10 + (c.toNat - 48)) * 10 ^ r.length + valD r := by
      rw [valD_cons, List.length_cons, Nat.pow_succ, Nat.add_mul, Nat.mul_comm (10 ^ r.length) 10, ← Nat.mul_assoc]; omega
    rw [e] at hle ⊢
    have hp : 1 ≤ 10 ^ r.length := Nat.one_le_pow _ _ (by decide)
    have h1 : (acc * 10 + (c.toNat - 48)) * 1 ≤ (acc * 10 + (c.toNat - 48)) * 10 ^ r.length := Nat.mul_le_mul_left _ hp
    unfold Lib.parseUintM
    rw [if_pos ⟨hb.1, hb.2⟩, if_neg (by omega), if_neg (by omega)]
    exact ih h.2 _ hle
theorem parse_ok (l : List UInt8) (h : allD l = true) (h0 : l ≠ []) (hle : valD l ≤ 18446744073709551615) : Lib.parseUintB 64 l = .ok (valD l) := by
  have := parse_fold l h 0 (by rw [Nat.zero_mul, Nat.zero_add]; exact hle)
  rw [Nat.zero_mul, Nat.zero_add] at this
  unfold Lib.parseUintB
  rw [if_neg h0]
  exact this

/-! ### The cut at the point -/
theorem index_none (t : List UInt8) (h : (46 : UInt8) ∉ t) : Lib.index t [46] = -1 := by
  induction t with
  | nil => rfl
  | cons c r ih =>
    rw [List.mem_cons, not_or] at h
    unfold Lib.index
    rw [if_neg (by simp [List.isPrefixOf]; exact h.1), ih h.2]; rfl
theorem index_at (a b : List UInt8) (h : (46 : UInt8) ∉ a) : Lib.index (a ++ 46 :: b) [46] = (a.length : Int) := by
  induction a with
  | nil => simp [Lib.index, List.isPrefixOf]
  | cons c r ih =>
    rw [List.mem_cons, not_or] at h
    rw [List.cons_append]
    unfold Lib.index
    rw [if_neg (by simp [List.isPrefixOf]; exact h.1), ih h.2, if_neg (by simp)]
    simp
theorem cut_none (t : List UInt8) (h : (46 : UInt8) ∉ t) : Lib.cut t [46] = (t, [], false) := by
  unfold Lib.cut; rw [index_none t h]; rfl
theorem cut_at (a b : List UInt8) (h : (46 : UInt8) ∉ a) : Lib.cut (a ++ 46 :: b) [46] = (a, b, true) := by
  unfold Lib.cut
  rw [index_at a b h, if_pos (by omega)]
  simp
theorem point (t : List UInt8) : (46 : UInt8) ∉ t ∨ ∃ a b, t = a ++ 46 :: b ∧ (46 : UInt8) ∉ a := by
  induction t with
  | nil => left; simp
  | cons c r ih =>
    by_cases hc : c = 46
    · right; exact ⟨[], r, by rw [hc]; rfl, by simp⟩
    · rcases ih with h | ⟨a, b, e, h⟩
      · left; rw [List.mem_cons, not_or]; exact ⟨fun e => hc e.symm, h⟩
      · right; exact ⟨c :: a, b, by rw [e]; rfl, by rw [List.mem_cons, not_or]; exact ⟨fun e => hc e.symm, h⟩⟩

/-! ### The reference's reading, by the cut -/
theorem takeWhile_stop (a b : List UInt8) (c : UInt8) (ha : allD a = true) (hc : isDig c = false) : ((a ++ c :: b).takeWhile isDig).length = a.length := by
  refine (head_of _ a.length (by rw [List.length_append]; omega) ?_ (Or.inr ⟨by rw [List.length_append, List.length_cons]; omega, ?_⟩)).symm
  · rw [List.take_left' rfl]; exact ha
  · rw [List.getElem_append_right (Nat.le_refl _)]; simpa using hc
theorem takeWhile_whole (a : List UInt8) (ha : allD a = true) : (a.takeWhile isDig).length = a.length :=
  (head_of a a.length (Nat.le_refl _) (by rw [List.take_length]; exact ha) (Or.inl rfl)).symm
theorem takeWhile_part (a : List UInt8) (ha : allD a = false) : ∃ h : (a.takeWhile isDig).length < a.length, isDig (a[(a.takeWhile isDig).length]) = false := by
  induction a with
  | nil => simp [allD] at ha
  | cons c r ih =>
    cases hc : isDig c with
    | false =>
      have e : (c :: r).takeWhile isDig = [] := by rw [List.takeWhile_cons, hc]; rfl
      simp only [e]
      exact ⟨by simp, hc⟩
    | true =>
      have hr : allD r = false := by
        unfold allD at ha ⊢; rw [List.all_cons, hc, Bool.true_and] at ha; exact ha
      obtain ⟨h, h'⟩ := ih hr
      have e : (c :: r).takeWhile isDig = c :: r.takeWhile isDig := by rw [List.takeWhile_cons, hc]; rfl
      simp only [e]
      exact ⟨by simpa using h, by simpa using h'⟩
theorem dig46 : isDig 46 = false := by decide

/-- A head that is no row of digits. -/
theorem rpar_head (b : Bool) (wh rest : List UInt8) (h46 : (46 : UInt8) ∉ wh) (hr : rest = [] ∨ ∃ pt, rest = 46 :: pt) (hd : digB wh = false) : rparS b (wh ++ rest) = (0, 5) := by
  unfold rparS
  by_cases h0 : wh = []
  · subst h0
    rcases hr with rfl | ⟨pt, rfl⟩
    · rfl
    · rw [show (([] : List UInt8) ++ 46 :: pt).takeWhile isDig = [] from by rw [List.nil_append, List.takeWhile_cons, dig46]; rfl]; rfl
  · have ha : allD wh = false := by
      unfold digB at hd
      cases h : wh with
      | nil => exact absurd h h0
      | cons c r => rw [h] at hd; simpa using hd
    obtain ⟨h, h'⟩ := takeWhile_part wh ha
    have e : ((wh ++ rest).takeWhile isDig).length = (wh.takeWhile isDig).length := by
      refine (head_of _ _ (by rw [List.length_append]; omega) ?_ (Or.inr ⟨by rw [List.length_append]; omega, ?_⟩)).symm
      · rw [List.take_append_of_le_length (by omega)]
        have := List.takeWhile_prefix (p := isDig) (l := wh)
        rw [← List.prefix_iff_eq_take.1 this]
        exact List.all_eq_true.2 fun x hx => takeWhile_mem hx
      · rw [List.getElem_append_left h]; exact h'
    rw [e]
    by_cases hk : (wh.takeWhile isDig).length = 0
    · rw [hk]; rfl
    · refine rparAt_bad hk (by rw [List.length_append]; omega) (Or.inl fun hc => ?_)
      rw [List.getElem?_append_left h, List.getElem?_eq_getElem h] at hc
      exact h46 (Option.some.inj hc ▸ List.getElem_mem h)
where
  takeWhile_mem {l : List UInt8} {x : UInt8} (h : x ∈ l.takeWhile isDig) : isDig x = true := by
    induction l with
    | nil => cases h
    | cons c r ih =>
      rw [List.takeWhile_cons] at h
      cases hc : isDig c with
      | false => rw [if_neg (by rw [hc]; simp)] at h; cases h
      | true =>
        rw [if_pos hc, List.mem_cons] at h
        rcases h with rfl | h
        · exact hc
        · exact ih h
theorem digB_parts {l : List UInt8} (h : digB l = true) : l ≠ [] ∧ allD l = true := by
  unfold digB at h
  rw [Bool.and_eq_true] at h
  exact ⟨fun e => by rw [e] at h; simp at h, h.2⟩
/-- A head of digits alone, no point. -/
theorem rpar_whole (b : Bool) (wh : List UInt8) (hd : digB wh = true) : rparS b wh = finS b (valD wh) 0 := by
  obtain ⟨h0, ha⟩ := digB_parts hd
  unfold rparS
  rw [takeWhile_whole wh ha]
  have hl : wh.length ≠ 0 := fun e => h0 (List.eq_nil_of_length_eq_zero e)
  rw [rparAt_end hl rfl rfl, List.take_length]
/-- A head of digits, a point, and no fraction that is one. -/
theorem rpar_nopart (b : Bool) (wh pt : List UInt8) (hd : digB wh = true) (hp : digB pt = false ∨ 6 < pt.length) : rparS b (wh ++ 46 :: pt) = (0, 5) := by
  obtain ⟨h0, ha⟩ := digB_parts hd
  unfold rparS
  rw [takeWhile_stop wh pt 46 ha dig46]
  have hl : wh.length ≠ 0 := fun e => h0 (List.eq_nil_of_length_eq_zero e)
  have hlen : (wh ++ 46 :: pt).length = wh.length + (pt.length + 1) := by rw [List.length_append, List.length_cons]
  by_cases h6 : 6 < pt.length
  · exact rparAt_bad hl (by omega) (Or.inr (Or.inr (by omega)))
  · have hp' := hp.resolve_right h6
    by_cases he : pt = []
    · subst he
      exact rparAt_bad hl (by rw [hlen]; omega) (Or.inr (Or.inl (by rw [hlen]; rfl)))
    · have hal : allD pt = false := by
        unfold digB at hp'
        cases h : pt with
        | nil => exact absurd h he
        | cons c r => rw [h] at hp'; simpa using hp'
      exact rparAt_nopart hl (by omega) (by rw [drop_point]; exact hal)
where
  drop_point {a b : List UInt8} : (a ++ 46 :: b).drop (a.length + 1) = b := by
    rw [← List.drop_drop, List.drop_left' rfl]; rfl
/-- A head of digits, a point, and a fraction. -/
theorem rpar_part (b : Bool) (wh pt : List UInt8) (hd : digB wh = true) (hp : digB pt = true) (h6 : pt.length ≤ 6) : rparS b (wh ++ 46 :: pt) = finS b (valD wh) (valD pt * 10 ^ (6 - pt.length)) := by
  obtain ⟨h0, ha⟩ := digB_parts hd
  obtain ⟨p0, pa⟩ := digB_parts hp
  have hpl : pt.length ≠ 0 := fun e => p0 (List.eq_nil_of_length_eq_zero e)
  unfold rparS
  rw [takeWhile_stop wh pt 46 ha dig46]
  have hl : wh.length ≠ 0 := fun e => h0 (List.eq_nil_of_length_eq_zero e)
  have hlen : (wh ++ 46 :: pt).length = wh.length + (pt.length + 1) := by rw [List.length_append, List.length_cons]
  have hdrop : (wh ++ 46 :: pt).drop (wh.length + 1) = pt := by rw [← List.drop_drop, List.drop_left' rfl]; rfl
  have htake : (wh ++ 46 :: pt).take wh.length = wh := List.take_left' rfl
  rw [rparAt_part hl (by omega) ?_ (by rw [hdrop]; exact pa) rfl, hdrop, htake, show (wh ++ 46 :: pt).length - (wh.length + 1) = pt.length by omega]
  rintro (h | h | h)
  · exact h (by rw [List.getElem?_append_right (Nat.le_refl _)]; simp)
  · omega
  · omega

/-! ### The digits that num hands to strconv -/
def sixZ : List UInt8 := [48, 48, 48, 48, 48, 48]
theorem six_take (pt : List UInt8) (h : pt.length ≤ 6) : (pt ++ sixZ).take 6 = pt ++ List.replicate (6 - pt.length) 48 := by
  have e : sixZ = List.replicate 6 48 := rfl
  rw [e, List.take_append, List.take_of_length_le h, List.take_replicate, Nat.min_eq_left (by omega)]
theorem num_text (wz pt : List UInt8) (hw : allD wz = true) (hp : allD pt = true) (h6 : pt.length ≤ 6) (h13 : wz.length ≤ 13) :
    Lib.parseUintB 64 (48 :: wz ++ (pt ++ sixZ).take 6) = .ok (valD wz * 1000000 + valD pt * 10 ^ (6 - pt.length)) ∧ valD wz * 1000000 + valD pt * 10 ^ (6 - pt.length) < 10000000000000000000 := by
  have hz : allD (List.replicate (6 - pt.length) 48) = true := List.all_eq_true.2 fun x hx => by rw [(List.mem_replicate.1 hx).2]; decide
  have hal : allD (48 :: wz ++ (pt ++ sixZ).take 6) = true := by
    rw [six_take pt h6]
    unfold allD at *
    rw [List.all_append, List.all_cons, List.all_append, hw, hp, hz]; rfl
  have hlen : (pt ++ List.replicate (6 - pt.length) 48).length = 6 := by rw [List.length_append, List.length_replicate]; omega
  have hv : valD (48 :: wz ++ (pt ++ sixZ).take 6) = valD wz * 1000000 + valD pt * 10 ^ (6 - pt.length) := by
    rw [six_take pt h6, valD_append, hlen, valD_cons, valD_append, valD_zeros, List.length_replicate]
    simp
  have h1 := valD_lt wz hw
  have h2 : 10 ^ wz.length ≤ 10 ^ 13 := Nat.pow_le_pow_right (by omega) h13
  have h3 := valD_lt pt hp
  have h4 : valD pt * 10 ^ (6 - pt.length) < 10 ^ pt.length * 10 ^ (6 - pt.length) := Nat.mul_lt_mul_of_pos_right h3 (Nat.pow_pos (by omega))
  rw [← Nat.pow_add, show pt.length + (6 - pt.length) = 6 by omega] at h4
  have hb : valD wz * 1000000 + valD pt * 10 ^ (6 - pt.length) < 10000000000000000000 := by omega
  refine ⟨?_, hb⟩
  have := parse_ok _ hal (by simp) (by rw [hv]; omega)
  rw [hv] at this
  exact this
end Go.Proofs.YtmepocffafcibaaDoor
