/- Plain: what Atoi makes of a valid integer. -/
import Derived.Test.YtdjnkaeggnkgeaaGreatDoorDec
import Derived.Lib.AtoiAll
namespace Go.Proofs.Dt
open Go.Lib (parseUint10 parseMag atoiAll NumEnd)

theorem dvalFrom_ge (l : List UInt8) (acc : Nat) : acc ≤ dvalFrom acc l := by
  rw [dvalFrom_eq]
  have : acc * 1 ≤ acc * 10 ^ l.length := Nat.mul_le_mul_left _ (Nat.pow_pos (by decide))
  omega

theorem parseUint10_dig : ∀ (l : List UInt8) (acc : Nat), l.all isDig = true → acc < 18446744073709551616 →
    parseUint10 acc l = if dvalFrom acc l < 18446744073709551616 then .ok (dvalFrom acc l) else .range
  | [], acc, _, ha => by rw [dvalFrom_nil, if_pos ha]; rfl
  | c :: r, acc, h, ha => by
    rw [List.all_cons, Bool.and_eq_true, isDig_iff] at h
    rw [dvalFrom_cons]
    simp only [parseUint10]
    rw [if_pos h.1]
    have e : acc * 10 + (c.toNat - 48) = 10 * acc + (c.toNat - 48) := by omega
    have hge := dvalFrom_ge r (10 * acc + (c.toNat - 48))
    by_cases h1 : 1844674407370955162 ≤ acc
    · rw [if_pos h1, if_neg (by omega)]
    · rw [if_neg h1, e]
      by_cases h2 : 18446744073709551616 ≤ 10 * acc + (c.toNat - 48)
      · rw [if_pos h2, if_neg (by omega)]
      · rw [if_neg h2]
        exact parseUint10_dig r _ h.2 (by omega)

theorem parseMag_dig {l : List UInt8} (hne : l ≠ []) (h : l.all isDig = true) : parseMag l = if dval l < 18446744073709551616 then .ok (dval l) else .range := by
  unfold parseMag dval
  rw [if_neg hne]
  exact parseUint10_dig l 0 h (by decide)

theorem atoiAll_dig {l : List UInt8} (hne : l ≠ []) (h : l.all isDig = true) : atoiAll l = if dval l ≤ 9223372036854775807 then .ok (dval l : Int) else .range := by
  have hm := parseMag_dig hne h
  cases l with
  | nil => exact absurd rfl hne
  | cons c r =>
    rw [List.all_cons, Bool.and_eq_true, isDig_iff] at h
    unfold atoiAll
    simp only
    rw [if_neg (by omega), hm]
    generalize dval (c :: r) = v
    by_cases h1 : v < 18446744073709551616
    · rw [if_pos h1]
      by_cases h2 : v ≤ 9223372036854775807
      · simp only
        rw [if_neg (by omega), if_neg (by omega), if_pos h2, if_neg (by omega)]
      · simp only
        rw [if_pos (by omega), if_neg h2]
    · rw [if_neg h1, if_neg (by omega)]

theorem atoiAll_neg {l : List UInt8} (hne : l ≠ []) (h : l.all isDig = true) : atoiAll (45 :: l) = if dval l ≤ 9223372036854775808 then .ok (-(dval l : Int)) else .range := by
  have hm := parseMag_dig hne h
  unfold atoiAll
  simp only
  rw [if_pos (by decide), hm]
  generalize dval l = v
  by_cases h1 : v < 18446744073709551616
  · rw [if_pos h1]
    by_cases h2 : v ≤ 9223372036854775808
    · simp only
      rw [if_neg (fun h => h.1 rfl), if_neg (by omega), if_pos h2]
      exact congrArg NumEnd.ok (if_pos rfl)
    · simp only
      rw [if_neg (fun h => h.1 rfl), if_pos ⟨rfl, by omega⟩, if_neg h2]
  · rw [if_neg h1, if_neg (by omega)]

theorem valid_parts {s : List UInt8} (h : valid s = true) : body s ≠ [] ∧ (body s).length ≤ 200 ∧ (body s).all isDig = true ∧ (s = [48] ∨ (body s).head? ≠ some 48) := by
  unfold valid at h
  simp only [Bool.and_eq_true, Bool.not_eq_true', decide_eq_true_eq, Bool.or_eq_true] at h
  obtain ⟨⟨⟨h1, h2⟩, h3⟩, h4⟩ := h
  exact ⟨by rwa [List.isEmpty_eq_false_iff] at h1, h2, h3, h4⟩

theorem atoiAll_valid {s : List UInt8} (h : valid s = true) : atoiAll s = if -9223372036854775808 ≤ num s ∧ num s ≤ 9223372036854775807 then .ok (num s) else .range := by
  obtain ⟨h1, _, h3, _⟩ := valid_parts h
  unfold num
  by_cases hs : s.head? = some 45
  · rw [if_pos hs]
    have e : s = 45 :: body s := by
      unfold body
      rw [if_pos hs]
      cases s with
      | nil => cases hs
      | cons c r => simp at hs; simp [hs]
    rw [e, atoiAll_neg h1 h3, ← e]
    generalize dval (body s) = v
    by_cases h2 : v ≤ 9223372036854775808
    · rw [if_pos h2, if_pos (by omega)]
    · rw [if_neg h2, if_neg (by omega)]
  · rw [if_neg hs]
    have e : body s = s := by unfold body; rw [if_neg hs]
    rw [e] at h1 h3 ⊢
    rw [atoiAll_dig h1 h3]
    generalize dval s = v
    by_cases h2 : v ≤ 9223372036854775807
    · rw [if_pos h2, if_pos (by omega)]
    · rw [if_neg h2, if_neg (by omega)]

/-- A valid integer with a '-' in front is less than 0. -/
theorem num_sign {s : List UInt8} (h : valid s = true) : num s < 0 ↔ s.head? = some 45 := by
  obtain ⟨h1, _, h3, h4⟩ := valid_parts h
  unfold num
  by_cases hs : s.head? = some 45
  · rw [if_pos hs]
    refine ⟨fun _ => hs, fun _ => ?_⟩
    have h5 : (body s).head? ≠ some 48 := by
      rcases h4 with e | e
      · rw [e] at hs; simp at hs
      · exact e
    have e := decDigits_dval (body s) h1 h3 h5
    have : dval (body s) ≠ 0 := by
      intro h0
      rw [h0, decDigits_lt (by decide)] at e
      rw [← e] at h5
      exact h5 rfl
    omega
  · rw [if_neg hs]
    exact ⟨fun h => by omega, fun h => absurd h hs⟩

theorem num_abs (s : List UInt8) : (num s).natAbs = dval (body s) := by
  unfold num; split <;> omega

theorem body_shorter (s : List UInt8) : (body s).length < s.length ↔ s.head? = some 45 := by
  unfold body
  split
  · rename_i h
    cases s with
    | nil => cases h
    | cons c r => simp [h]
  · rename_i h
    simp [h]

end Go.Proofs.Dt
