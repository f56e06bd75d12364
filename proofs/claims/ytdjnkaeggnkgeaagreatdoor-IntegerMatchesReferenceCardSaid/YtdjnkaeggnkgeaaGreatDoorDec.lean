/- Plain facts on decimal numerals: which lists of bytes are valid integers of the chapter, and which number each of them is. -/
import Derived.Lib.ItoaNum
namespace Go.Proofs.Dt
open Go.Lib (decDigits itoa nDigits)

/-- The number that a row of digits spells. -/
def dvalFrom (acc : Nat) (l : List UInt8) : Nat := l.foldl (fun a c => 10 * a + (c.toNat - 48)) acc
theorem dvalFrom_nil (acc : Nat) : dvalFrom acc [] = acc := rfl
theorem dvalFrom_cons (acc : Nat) (c : UInt8) (r : List UInt8) : dvalFrom acc (c :: r) = dvalFrom (10 * acc + (c.toNat - 48)) r := List.foldl_cons ..
def dval (l : List UInt8) : Nat := dvalFrom 0 l

def isDig (c : UInt8) : Bool := decide (48 ≤ c.toNat) && decide (c.toNat ≤ 57)

theorem snoc_induction {α : Type} {P : List α → Prop} (h0 : P []) (h1 : ∀ l a, P l → P (l ++ [a])) : ∀ l, P l := by
  have : ∀ n, ∀ l : List α, l.length = n → P l := by
    intro n
    induction n with
    | zero => intro l h; rw [List.length_eq_zero_iff] at h; rw [h]; exact h0
    | succ n ih =>
      intro l h
      have hne : l ≠ [] := by intro e; rw [e] at h; simp at h
      rw [← List.dropLast_concat_getLast hne]
      exact h1 _ _ (ih _ (by rw [List.length_dropLast]; omega))
  exact fun l => this _ l rfl

theorem dvalFrom_append (l m : List UInt8) : ∀ acc, dvalFrom acc (l ++ m) = dvalFrom (dvalFrom acc l) m := by
  intro acc; unfold dvalFrom; rw [List.foldl_append]

theorem dval_snoc (l : List UInt8) (c : UInt8) : dval (l ++ [c]) = 10 * dval l + (c.toNat - 48) := by
  unfold dval; rw [dvalFrom_append, dvalFrom_cons, dvalFrom_nil]

theorem dvalFrom_eq (l : List UInt8) : ∀ acc, dvalFrom acc l = acc * 10 ^ l.length + dval l := by
  induction l with
  | nil => intro acc; rw [dval, dvalFrom_nil, dvalFrom_nil, List.length_nil, Nat.pow_zero, Nat.mul_one, Nat.add_zero]
  | cons c r ih =>
    intro acc
    unfold dval
    rw [dvalFrom_cons, dvalFrom_cons, ih, ih (10 * 0 + (c.toNat - 48))]
    simp only [List.length_cons, Nat.pow_succ]
    generalize 10 ^ r.length = p
    generalize dval r = v; clear ih
    generalize c.toNat - 48 = d
    rw [Nat.mul_zero, Nat.zero_add, Nat.add_mul, Nat.mul_comm p 10, ← Nat.mul_assoc, Nat.mul_comm acc 10, Nat.add_assoc]

theorem dval_append (l m : List UInt8) : dval (l ++ m) = dval l * 10 ^ m.length + dval m := by
  have : dval (l ++ m) = dvalFrom (dval l) m := dvalFrom_append l m 0
  rw [this, dvalFrom_eq]

theorem isDig_iff (c : UInt8) : isDig c = true ↔ 48 ≤ c.toNat ∧ c.toNat ≤ 57 := by simp [isDig]

theorem dval_lt (l : List UInt8) (h : l.all isDig = true) : dval l < 10 ^ l.length := by
  induction l using snoc_induction with
  | h0 => rw [dval, dvalFrom_nil, List.length_nil, Nat.pow_zero]; omega
  | h1 l c ih =>
    simp only [List.all_append, List.all_cons, List.all_nil, Bool.and_true, Bool.and_eq_true] at h
    have hc := (isDig_iff c).1 h.2
    have := ih h.1
    rw [dval_snoc, List.length_append, List.length_singleton, Nat.pow_succ]
    omega

theorem ofNat_dig {d : Nat} (h : d < 10) : (UInt8.ofNat (48 + d)).toNat = 48 + d := by
  simp; omega

theorem decDigits_lt {u : Nat} (h : u < 10) : decDigits u = [UInt8.ofNat (48 + u)] := by rw [decDigits, dif_pos h]
theorem decDigits_ge {u : Nat} (h : ¬ u < 10) : decDigits u = decDigits (u / 10) ++ [UInt8.ofNat (48 + u % 10)] := by rw [decDigits, dif_neg h]

theorem decDigits_dig (u : Nat) : (decDigits u).all isDig = true := by
  induction u using Nat.strongRecOn with
  | _ u ih =>
    by_cases h : u < 10
    · rw [decDigits_lt h]; simp only [List.all_cons, List.all_nil, Bool.and_true]; rw [isDig_iff, ofNat_dig h]; omega
    · rw [decDigits_ge h, List.all_append, ih _ (by omega)]
      simp only [List.all_cons, List.all_nil, Bool.and_true, Bool.true_and]
      rw [isDig_iff, ofNat_dig (by omega)]; omega

theorem dval_decDigits (u : Nat) : dval (decDigits u) = u := by
  induction u using Nat.strongRecOn with
  | _ u ih =>
    by_cases h : u < 10
    · rw [decDigits_lt h]; show 10 * 0 + ((UInt8.ofNat (48 + u)).toNat - 48) = u; rw [ofNat_dig h]; omega
    · rw [decDigits_ge h, dval_snoc, ih _ (by omega), ofNat_dig (by omega)]; omega

theorem decDigits_ne (u : Nat) : decDigits u ≠ [] := by
  by_cases h : u < 10
  · rw [decDigits_lt h]; simp
  · rw [decDigits_ge h]; simp

theorem decDigits_head (u : Nat) (h0 : u ≠ 0) : (decDigits u).head? ≠ some 48 := by
  induction u using Nat.strongRecOn with
  | _ u ih =>
    by_cases h : u < 10
    · rw [decDigits_lt h]
      intro e
      simp only [List.head?_cons, Option.some.injEq] at e
      have := congrArg UInt8.toNat e
      rw [ofNat_dig h] at this
      have : (48 : UInt8).toNat = 48 := rfl
      omega
    · rw [decDigits_ge h, List.head?_append]
      have hne := decDigits_ne (u / 10)
      have := ih (u / 10) (by omega) (by omega)
      cases hd : (decDigits (u / 10)).head? with
      | none => rw [List.head?_eq_none_iff] at hd; exact absurd hd hne
      | some c => rw [hd] at this; simpa using this

/-- A row of digits without a zero in front is the one of its number. -/
theorem decDigits_dval (l : List UInt8) (hne : l ≠ []) (hd : l.all isDig = true) (hh : l.head? ≠ some 48) : decDigits (dval l) = l := by
  induction l using snoc_induction with
  | h0 => exact absurd rfl hne
  | h1 l c ih =>
    simp only [List.all_append, List.all_cons, List.all_nil, Bool.and_true, Bool.and_eq_true] at hd
    have hc := (isDig_iff c).1 hd.2
    have e2 : UInt8.ofNat (48 + (c.toNat - 48)) = c := by
      apply UInt8.toNat_inj.1; rw [ofNat_dig (by omega)]; omega
    cases hl : l with
    | nil =>
      subst hl
      show decDigits (10 * 0 + (c.toNat - 48)) = [c]
      rw [decDigits_lt (by omega), show 10 * 0 + (c.toNat - 48) = c.toNat - 48 by omega, e2]
    | cons a r =>
      have hl' : l ≠ [] := by rw [hl]; simp
      rw [← hl]
      have hh' : l.head? ≠ some 48 := by
        rw [List.head?_append, hl] at hh; rw [hl]; simpa using hh
      have ih' := ih hl' hd.1 hh'
      have hpos : dval l ≠ 0 := by
        intro e0
        rw [e0, decDigits_lt (by omega)] at ih'
        apply hh'
        rw [← ih']; rfl
      rw [dval_snoc, decDigits_ge (by omega)]
      rw [show (10 * dval l + (c.toNat - 48)) / 10 = dval l by omega, show (10 * dval l + (c.toNat - 48)) % 10 = c.toNat - 48 by omega, ih', e2]

/-- 'most' is the greatest number of digits. -/
def limit : Nat := 10 ^ 200

theorem decDigits_length_le (u k : Nat) (hk : 1 ≤ k) : (decDigits u).length ≤ k ↔ u < 10 ^ k := by
  induction u using Nat.strongRecOn generalizing k with
  | _ u ih =>
    by_cases h : u < 10
    · rw [decDigits_lt h]
      have : 10 ^ 1 ≤ 10 ^ k := Nat.pow_le_pow_right (by decide) hk
      simp only [List.length_singleton]
      omega
    · rw [decDigits_ge h, List.length_append, List.length_singleton]
      obtain ⟨k, rfl⟩ : ∃ j, k = j + 1 := ⟨k - 1, by omega⟩
      by_cases hk1 : k = 0
      · subst hk1
        have := decDigits_ne (u / 10)
        have : 1 ≤ (decDigits (u / 10)).length := by
          cases hx : decDigits (u / 10) with
          | nil => exact absurd hx this
          | cons a r => simp
        simp only [Nat.zero_add, Nat.pow_one]
        omega
      · have := ih (u / 10) (by omega) k (by omega)
        rw [Nat.pow_succ]
        omega

/-- The integer n as a string. -/
def str (n : Int) : List UInt8 := itoa n

/-- The digits of a string: all but a '-' in front. -/
def body (s : List UInt8) : List UInt8 := if s.head? = some 45 then s.tail else s

/-- Which strings are valid integers. -/
def valid (s : List UInt8) : Bool :=
  !(body s).isEmpty && decide ((body s).length ≤ 200) && (body s).all isDig && (decide (s = [48]) || decide ((body s).head? ≠ some 48))

/-- The number that a valid string is. -/
def num (s : List UInt8) : Int := if s.head? = some 45 then -(dval (body s) : Int) else (dval (body s) : Int)

theorem str_nonneg {n : Int} (h : 0 ≤ n) : str n = decDigits n.toNat := by unfold str itoa; rw [if_neg (by omega)]
theorem str_neg {n : Int} (h : n < 0) : str n = 45 :: decDigits n.natAbs := by unfold str itoa; rw [if_pos h]

theorem head_dig {l : List UInt8} (h : l.all isDig = true) : l.head? ≠ some 45 := by
  cases l with
  | nil => simp
  | cons c r =>
    simp only [List.all_cons, Bool.and_eq_true] at h
    have := (isDig_iff c).1 h.1
    intro e
    simp only [List.head?_cons, Option.some.injEq] at e
    subst e
    have : (45 : UInt8).toNat = 45 := rfl
    omega

theorem str_head_neg {n : Int} (h : n < 0) : (str n).head? = some 45 := by rw [str_neg h]; rfl
theorem str_head_nonneg {n : Int} (h : 0 ≤ n) : (str n).head? ≠ some 45 := by rw [str_nonneg h]; exact head_dig (decDigits_dig _)
theorem body_str (n : Int) : body (str n) = decDigits n.natAbs := by
  unfold body
  by_cases h : n < 0
  · rw [if_pos (str_head_neg h), str_neg h]; rfl
  · rw [if_neg (str_head_nonneg (by omega)), str_nonneg (by omega), show n.toNat = n.natAbs by omega]

theorem num_str (n : Int) : num (str n) = n := by
  unfold num
  rw [body_str, dval_decDigits]
  by_cases h : n < 0
  · rw [if_pos (str_head_neg h)]; omega
  · rw [if_neg (str_head_nonneg (by omega))]; omega

theorem str_inj {m n : Int} (h : str m = str n) : m = n := by rw [← num_str m, h, num_str]

theorem valid_str (n : Int) : valid (str n) = true ↔ n.natAbs < limit := by
  unfold valid
  rw [body_str, decDigits_dig]
  have h1 : (decDigits n.natAbs).isEmpty = false := by simpa using decDigits_ne n.natAbs
  have h2 := decDigits_length_le n.natAbs 200 (by decide)
  have h3 : (decide (str n = [48]) || decide ((decDigits n.natAbs).head? ≠ some 48)) = true := by
    by_cases h0 : n = 0
    · subst h0
      have : str 0 = [48] := by rw [str_nonneg (by omega), decDigits_lt (by decide)]; rfl
      simp [this]
    · have := decDigits_head n.natAbs (by omega)
      simp [this]
  rw [h1, h3]
  unfold limit
  simp only [Bool.not_false, Bool.true_and, Bool.and_true, decide_eq_true_eq]
  exact h2

theorem str_num {s : List UInt8} (h : valid s = true) : str (num s) = s := by
  unfold valid at h
  simp only [Bool.and_eq_true, Bool.or_eq_true, decide_eq_true_eq, Bool.not_eq_true', List.isEmpty_eq_false_iff] at h
  obtain ⟨⟨⟨hne, _⟩, hd⟩, h0⟩ := h
  unfold num
  rcases h0 with h0 | h0
  · subst h0
    have : body [48] = [48] := by decide
    rw [this]
    have : dval [48] = 0 := by decide
    rw [this]
    have : ¬ ([48] : List UInt8).head? = some 45 := by decide
    rw [if_neg this, str_nonneg (by decide)]
    show decDigits 0 = _
    rw [decDigits_lt (by decide)]; rfl
  · have hb := decDigits_dval (body s) hne hd h0
    by_cases hs : s.head? = some 45
    · rw [if_pos hs]
      have hpos : dval (body s) ≠ 0 := by
        intro e0
        rw [e0, decDigits_lt (by omega)] at hb
        exact h0 (by rw [← hb]; rfl)
      rw [str_neg (by omega), show (-(dval (body s) : Int)).natAbs = dval (body s) by omega, hb]
      unfold body
      rw [if_pos hs]
      cases s with
      | nil => simp at hs
      | cons c r => simp only [List.head?_cons, Option.some.injEq] at hs; subst hs; rfl
    · rw [if_neg hs, str_nonneg (by omega), show (dval (body s) : Int).toNat = dval (body s) by omega, hb]
      unfold body; rw [if_neg hs]

theorem num_lt {s : List UInt8} (h : valid s = true) : (num s).natAbs < limit := by
  rw [← valid_str, str_num h]; exact h

/-- A valid string is the one of a number. -/
theorem valid_iff (s : List UInt8) : valid s = true ↔ ∃ n : Int, n.natAbs < limit ∧ s = str n :=
  ⟨fun h => ⟨num s, num_lt h, (str_num h).symm⟩, fun ⟨n, hn, e⟩ => by rw [e]; exact (valid_str n).2 hn⟩

/-- A result: the string, or nothing where it has too many digits. -/
def res (n : Int) : List UInt8 × Int := if n.natAbs < limit then (str n, 0) else ([], 30)

end Go.Proofs.Dt
