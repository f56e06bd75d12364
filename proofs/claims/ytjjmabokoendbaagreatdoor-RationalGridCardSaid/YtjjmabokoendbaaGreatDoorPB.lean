/- Fractions of integers: comparison by whole parts and what is left, upside down; lowest terms. Plain, without a program.
Two strings as a fraction, and the rational numbers that they are: plain, without a program.
What the operations on fractions give, as rational numbers: plain.
Strings that are fractions, and what the operations return for them: plain. -/
import Derived.Test.YtjjmabokoendbaaGreatDoorPA
namespace Go.Proofs.Dt

theorem sgn_neg (x : Int) : sgn (-x) = -sgn x := by
  unfold sgn
  rcases Int.lt_trichotomy x 0 with h | h | h
  · rw [if_neg (by omega), if_pos (by omega), if_pos h]; rfl
  · rw [if_neg (by omega), if_neg (by omega), if_neg (by omega), if_neg (by omega)]; rfl
  · rw [if_pos (by omega), if_neg (by omega), if_pos h]
theorem sgn_of_lt {x : Int} (h : x < 0) : sgn x = -1 := by unfold sgn; rw [if_pos h]
theorem sgn_of_gt {x : Int} (h : 0 < x) : sgn x = 1 := by unfold sgn; rw [if_neg (by omega), if_pos h]
theorem sgn_of_eq {x : Int} (h : x = 0) : sgn x = 0 := by unfold sgn; rw [if_neg (by omega), if_neg (by omega)]

theorem whole_lt {n d m c : Int} (hd : 0 < d) (hc : 0 < c) (h : n / d < m / c) : n * c < m * d := by
  have h1 : n < (n / d + 1) * d := Int.lt_ediv_add_one_mul_self n hd
  have h2 : m / c * c ≤ m := Int.ediv_mul_le m (by omega)
  have h3 : (n / d + 1) * d ≤ m / c * d := Int.mul_le_mul_of_nonneg_right (by omega) (by omega)
  have h4 : n * c < m / c * d * c := Int.mul_lt_mul_of_pos_right (by omega) hc
  have h5 : m / c * c * d ≤ m * d := Int.mul_le_mul_of_nonneg_right h2 (by omega)
  have h6 : m / c * d * c = m / c * c * d := by rw [Int.mul_assoc, Int.mul_comm d c, ← Int.mul_assoc]
  omega
/-- Other whole parts decide. -/
theorem cmp_whole {n d m c : Int} (hd : 0 < d) (hc : 0 < c) (h : n / d ≠ m / c) : sgn (n * c - m * d) = sgn (n / d - m / c) := by
  rcases Int.lt_or_gt_of_ne h with h1 | h1
  · have := whole_lt hd hc h1
    rw [sgn_of_lt (by omega), sgn_of_lt (by omega)]
  · have := whole_lt hc hd h1
    rw [sgn_of_gt (by omega), sgn_of_gt (by omega)]
/-- Behind the same whole parts what is left decides. -/
theorem cmp_rest {n d m c : Int} (h : n / d = m / c) : n * c - m * d = n % d * c - m % c * d := by
  have h1 := Int.emod_add_mul_ediv n d
  have h2 := Int.emod_add_mul_ediv m c
  rw [h] at h1
  generalize m / c = q at h1 h2
  generalize n % d = r at *
  generalize m % c = s at *
  subst h1
  subst h2
  grind
/-- .. upside down, with the other sign. -/
theorem cmp_flip (r c s d : Int) : sgn (r * c - s * d) = -sgn (d * s - c * r) := by
  rw [← sgn_neg]; congr 1; grind

end Go.Proofs.Dt

namespace Go.Proofs.Dt

/-- The string of an integer. -/
def sx (x : Int) : ByteArray := ⟨(str x).toArray⟩
theorem sx_list (x : Int) : (sx x).data.toList = str x := rfl

/-- An integer is not too large. -/
def ok (x : Int) : Bool := decide (x.natAbs < limit)
theorem ok_lt {x : Int} (h : ok x = true) : x.natAbs < limit := of_decide_eq_true h
theorem lt_ok {x : Int} (h : x.natAbs < limit) : ok x = true := decide_eq_true h
theorem ok_not {x : Int} (h : ok x = false) : ¬ x.natAbs < limit := of_decide_eq_false h

/-- Whether two strings are a fraction in lowest terms. -/
def validR (n d : List UInt8) : Bool := valid n && valid d && decide (0 < num d) && decide (Int.gcd (num n) (num d) = 1)
/-- The fraction that two strings are. -/
def frac (n d : List UInt8) : Option Rat := if validR n d then some (Rat.divInt (num n) (num d)) else none

/-- What is returned for a fraction, or for none. -/
def nS : Option Rat → ByteArray | some q => sx q.num | none => ⟨#[]⟩
def dS : Option Rat → ByteArray | some q => sx (q.den : Int) | none => ⟨#[]⟩
def cS : Option Rat → Int | some _ => 0 | none => 40
def Fits (o : Option Rat) : Prop := ∀ q, o = some q → q.num.natAbs < limit ∧ q.den < limit

theorem divInt_pos {N D : Int} (hD : 0 < D) : (Rat.divInt N D).num = N / (Int.gcd N D : Int) ∧ ((Rat.divInt N D).den : Int) = D / (Int.gcd N D : Int) := by
  constructor
  · rw [Rat.num_divInt, Int.gcd_comm, Int.sign_eq_one_of_pos hD, Int.one_mul]
  · rw [Rat.den_divInt, if_neg (by omega), Int.gcd_comm, Int.natCast_ediv]
    congr 1; omega
theorem divInt_low {N D : Int} (hD : 0 < D) (hg : Int.gcd N D = 1) : (Rat.divInt N D).num = N ∧ ((Rat.divInt N D).den : Int) = D := by
  have h := divInt_pos (N := N) hD
  rw [hg] at h
  simpa using h
theorem divInt_neg {N D : Int} : Rat.divInt N D = Rat.divInt (0 - N) (0 - D) := by
  rw [Int.zero_sub, Int.zero_sub, Rat.neg_divInt_neg]

theorem validR_parts {n d : List UInt8} (h : validR n d = true) : valid n = true ∧ valid d = true ∧ 0 < num d ∧ Int.gcd (num n) (num d) = 1 := by
  unfold validR at h
  simp only [Bool.and_eq_true, decide_eq_true_eq] at h
  exact ⟨h.1.1.1, h.1.1.2, h.1.2, h.2⟩
theorem frac_some {n d : List UInt8} {q : Rat} (h : frac n d = some q) : n = str q.num ∧ d = str (q.den : Int) ∧ q.num.natAbs < limit ∧ q.den < limit := by
  unfold frac at h
  by_cases hv : validR n d = true
  · rw [if_pos hv] at h
    obtain ⟨h1, h2, h3, h4⟩ := validR_parts hv
    obtain ⟨e1, e2⟩ := divInt_low h3 h4
    have hq : Rat.divInt (num n) (num d) = q := Option.some.inj h
    rw [hq] at e1 e2
    refine ⟨by rw [e1, str_num h1], by rw [e2, str_num h2], by rw [e1]; exact num_lt h1, ?_⟩
    have := num_lt h2
    omega
  · rw [if_neg hv] at h; cases h
theorem rat_gcd (q : Rat) : Int.gcd q.num (q.den : Int) = 1 := q.reduced
theorem frac_of {q : Rat} (h1 : q.num.natAbs < limit) (h2 : q.den < limit) : frac (str q.num) (str (q.den : Int)) = some q := by
  have hd := q.den_pos
  unfold frac
  rw [if_pos (by
    unfold validR
    rw [(valid_str _).2 h1, (valid_str (q.den : Int)).2 (by omega), num_str, num_str, rat_gcd, decide_eq_true (by omega)]; rfl), num_str, num_str, Rat.num_divInt_den]
theorem frac_none {n d : List UInt8} : frac n d = none ↔ validR n d = false := by
  unfold frac
  cases validR n d <;> simp
theorem frac_isSome (n d : List UInt8) : (frac n d).isSome = validR n d := by
  unfold frac
  cases validR n d <;> simp
theorem valid_empty : valid [] = false := by decide
theorem frac_empty (d : List UInt8) : frac [] d = none := by
  rw [frac_none]; unfold validR; rw [valid_empty]; rfl
theorem frac_out {o : Option Rat} (h : Fits o) : frac (nS o).data.toList (dS o).data.toList = o := by
  cases o with
  | none => exact frac_empty _
  | some q => exact frac_of (h q rfl).1 (h q rfl).2
theorem frac_fits (n d : List UInt8) : Fits (frac n d) := fun _ h => (frac_some h).2.2

/-- Two integers as a fraction. -/
def makeR (N D : Int) : Option Rat := if D = 0 then none else some (Rat.divInt N D)
theorem makeR_zero (N : Int) : makeR N 0 = none := rfl
theorem makeR_some {N D : Int} (h : D ≠ 0) : makeR N D = some (Rat.divInt N D) := if_neg h
theorem divInt_le {N D : Int} (hD : 0 < D) : (Rat.divInt N D).num.natAbs ≤ N.natAbs ∧ (Rat.divInt N D).den ≤ D.natAbs := by
  obtain ⟨h1, h2⟩ := divInt_pos (N := N) hD
  constructor
  · rw [h1]; exact Int.natAbs_ediv_le_natAbs _ _
  · have := Int.natAbs_ediv_le_natAbs D (Int.gcd N D : Int)
    rw [← h2] at this
    omega
theorem divInt_le' {N D : Int} (hD : D ≠ 0) : (Rat.divInt N D).num.natAbs ≤ N.natAbs ∧ (Rat.divInt N D).den ≤ D.natAbs := by
  rcases Int.lt_or_gt_of_ne hD with h | h
  · have := divInt_le (N := 0 - N) (D := 0 - D) (by omega)
    rw [← divInt_neg] at this
    omega
  · exact divInt_le h
theorem makeR_fits {N D : Int} (hN : N.natAbs < limit) (hD : D.natAbs < limit) : Fits (makeR N D) := by
  intro q h
  by_cases h0 : D = 0
  · subst h0; cases h
  · rw [makeR_some h0] at h
    cases h
    have := divInt_le' (N := N) h0
    omega

/-- The four operations, comparison, rounding. -/
def sumR (f : Int → Int → Int) (p q : Rat) : Option Rat :=
  if ok (p.num * q.den) && ok (q.num * p.den) && ok (f (p.num * q.den) (q.num * p.den)) && ok (p.den * q.den : Int) then makeR (f (p.num * q.den) (q.num * p.den)) (p.den * q.den : Int) else none
def mulR (p q : Rat) : Option Rat := if ok (p.num * q.num) && ok (p.den * q.den : Int) then makeR (p.num * q.num) (p.den * q.den : Int) else none
def divR (p q : Rat) : Option Rat := if ok (p.num * q.den) && ok (p.den * q.num : Int) then makeR (p.num * q.den) (p.den * q.num : Int) else none
def cmpR (p q : Rat) : Int := sgn (p.num * q.den - q.num * p.den)
def quotR (up : Bool) (n d : Int) : Int := if up && decide (n % d ≠ 0) then n / d + 1 else n / d
def roundR (up : Bool) (p : Rat) (k : Nat) : Option Rat := if ok (p.num * (10 ^ k : Nat)) then makeR (quotR up (p.num * (10 ^ k : Nat)) p.den) (10 ^ k : Nat) else none
def lift2 (f : Rat → Rat → Option Rat) : Option Rat → Option Rat → Option Rat
  | some p, some q => f p q
  | _, _ => none
def addO := lift2 (sumR (· + ·))
def subO := lift2 (sumR (· - ·))
def mulO := lift2 mulR
def divO := lift2 divR
def cmpO : Option Rat → Option Rat → Int
  | some p, some q => cmpR p q
  | _, _ => 0
def roundO (up : Bool) (o : Option Rat) (k : Int) : Option Rat :=
  match o with
  | some p => if 0 ≤ k ∧ k ≤ 30 then roundR up p k.toNat else none
  | none => none

theorem sumR_fits (f : Int → Int → Int) (p q : Rat) : Fits (sumR f p q) := by
  unfold sumR
  split
  · rename_i h
    simp only [Bool.and_eq_true] at h
    exact makeR_fits (ok_lt h.1.2) (ok_lt h.2)
  · intro _ h; cases h
theorem mulR_fits (p q : Rat) : Fits (mulR p q) := by
  unfold mulR
  split
  · rename_i h
    simp only [Bool.and_eq_true] at h
    exact makeR_fits (ok_lt h.1) (ok_lt h.2)
  · intro _ h; cases h
theorem divR_fits (p q : Rat) : Fits (divR p q) := by
  unfold divR
  split
  · rename_i h
    simp only [Bool.and_eq_true] at h
    exact makeR_fits (ok_lt h.1) (ok_lt h.2)
  · intro _ h; cases h
theorem pow10_limit {k : Nat} (h : k < 200) : (10 : Nat) ^ k < limit := by unfold limit; exact Nat.pow_lt_pow_right (by decide) h
theorem quotR_le {up : Bool} {n d : Int} (hd : 0 < d) : (quotR up n d).natAbs ≤ n.natAbs := by
  have h1 := Int.natAbs_ediv_le_natAbs n d
  unfold quotR
  split
  · rename_i h
    simp only [Bool.and_eq_true, decide_eq_true_eq] at h
    have hd1 : 1 < d := by
      rcases Int.lt_or_le 1 d with h1 | h1
      · exact h1
      · have : d = 1 := by omega
        subst this
        exact absurd (Int.emod_one n) h.2
    have e := Int.emod_add_mul_ediv n d
    have hr := Int.emod_nonneg n (show d ≠ 0 by omega)
    rcases Int.lt_or_le (n / d) 0 with hq | hq
    · omega
    · have : 2 * (n / d) ≤ d * (n / d) := Int.mul_le_mul_of_nonneg_right (by omega) hq
      have := h.2
      omega
  · exact h1
theorem roundR_fits (up : Bool) (p : Rat) {k : Nat} (hk : k < 200) : Fits (roundR up p k) := by
  unfold roundR
  split
  · rename_i h
    have h1 := ok_lt h
    have hd := p.den_pos
    have := quotR_le (up := up) (n := p.num * (10 ^ k : Nat)) (d := p.den) (by omega)
    exact makeR_fits (by omega) (by have := pow10_limit hk; rw [Int.natAbs_natCast]; exact this)
  · intro _ h; cases h
theorem lift2_fits {f : Rat → Rat → Option Rat} (h : ∀ p q, Fits (f p q)) (a b : Option Rat) : Fits (lift2 f a b) := by
  cases a <;> cases b <;> first | exact h _ _ | (intro _ h; cases h)
theorem addO_fits (a b : Option Rat) : Fits (addO a b) := lift2_fits (sumR_fits _) a b
theorem subO_fits (a b : Option Rat) : Fits (subO a b) := lift2_fits (sumR_fits _) a b
theorem mulO_fits (a b : Option Rat) : Fits (mulO a b) := lift2_fits mulR_fits a b
theorem divO_fits (a b : Option Rat) : Fits (divO a b) := lift2_fits divR_fits a b
theorem roundO_fits (up : Bool) (a : Option Rat) (k : Int) : Fits (roundO up a k) := by
  unfold roundO
  split
  · split
    · exact roundR_fits _ _ (by omega)
    · intro _ h; cases h
  · intro _ h; cases h

end Go.Proofs.Dt

namespace Go.Proofs.Dt

theorem add_divInt (p q : Rat) : Rat.divInt (p.num * q.den + q.num * p.den) (p.den * q.den : Int) = p + q := by
  rw [Rat.add_def', ← Rat.divInt_ofNat, Int.natCast_mul]
theorem sub_divInt (p q : Rat) : Rat.divInt (p.num * q.den - q.num * p.den) (p.den * q.den : Int) = p - q := by
  rw [Rat.sub_def', ← Rat.divInt_ofNat, Int.natCast_mul]
theorem mul_divInt (p q : Rat) : Rat.divInt (p.num * q.num) (p.den * q.den : Int) = p * q := by
  rw [Rat.mul_def', ← Rat.divInt_ofNat, Int.natCast_mul]
theorem div_divInt (p q : Rat) : Rat.divInt (p.num * q.den) (p.den * q.num : Int) = p / q := by
  rw [Rat.div_def, ← Rat.divInt_mul_divInt, Rat.num_divInt_den, ← Rat.inv_divInt, Rat.num_divInt_den]
theorem den_ne (p : Rat) : (p.den : Int) ≠ 0 := by have := p.den_pos; omega
theorem den_mul_ne (p q : Rat) : (p.den * q.den : Int) ≠ 0 := Int.mul_ne_zero (den_ne p) (den_ne q)

theorem sumR_plus {p q r : Rat} (h : sumR (· + ·) p q = some r) : r = p + q := by
  unfold sumR at h
  split at h
  · rw [makeR_some (den_mul_ne p q)] at h
    exact (Option.some.inj h).symm.trans (add_divInt p q)
  · cases h
theorem sumR_minus {p q r : Rat} (h : sumR (· - ·) p q = some r) : r = p - q := by
  unfold sumR at h
  split at h
  · rw [makeR_some (den_mul_ne p q)] at h
    exact (Option.some.inj h).symm.trans (sub_divInt p q)
  · cases h
theorem mulR_times {p q r : Rat} (h : mulR p q = some r) : r = p * q := by
  unfold mulR at h
  split at h
  · rw [makeR_some (den_mul_ne p q)] at h
    exact (Option.some.inj h).symm.trans (mul_divInt p q)
  · cases h
theorem divR_over {p q r : Rat} (h : divR p q = some r) : q ≠ 0 ∧ r = p / q := by
  unfold divR at h
  split at h
  · by_cases h0 : q.num = 0
    · rw [h0, Int.mul_zero, makeR_zero] at h; cases h
    · rw [makeR_some (Int.mul_ne_zero (den_ne p) h0)] at h
      exact ⟨fun e => h0 (by rw [e]; rfl), (Option.some.inj h).symm.trans (div_divInt p q)⟩
  · cases h

theorem sumR_ok {p q : Rat} (h1 : (p.num * q.den).natAbs < limit) (h2 : (q.num * p.den).natAbs < limit) (h3 : (p.num * q.den + q.num * p.den).natAbs < limit) (h4 : (p.den * q.den : Int).natAbs < limit) : sumR (· + ·) p q = some (p + q) := by
  unfold sumR
  rw [lt_ok h1, lt_ok h2, lt_ok h3, lt_ok h4, if_pos (by decide), makeR_some (den_mul_ne p q), add_divInt]
theorem subR_ok {p q : Rat} (h1 : (p.num * q.den).natAbs < limit) (h2 : (q.num * p.den).natAbs < limit) (h3 : (p.num * q.den - q.num * p.den).natAbs < limit) (h4 : (p.den * q.den : Int).natAbs < limit) : sumR (· - ·) p q = some (p - q) := by
  unfold sumR
  rw [lt_ok h1, lt_ok h2, lt_ok h3, lt_ok h4, if_pos (by decide), makeR_some (den_mul_ne p q), sub_divInt]
theorem mulR_ok {p q : Rat} (h1 : (p.num * q.num).natAbs < limit) (h4 : (p.den * q.den : Int).natAbs < limit) : mulR p q = some (p * q) := by
  unfold mulR
  rw [lt_ok h1, lt_ok h4, if_pos (by decide), makeR_some (den_mul_ne p q), mul_divInt]
theorem divR_ok {p q : Rat} (h1 : (p.num * q.den).natAbs < limit) (h4 : (p.den * q.num : Int).natAbs < limit) (h0 : q ≠ 0) : divR p q = some (p / q) := by
  unfold divR
  rw [lt_ok h1, lt_ok h4, if_pos (by decide), makeR_some (Int.mul_ne_zero (den_ne p) (fun e => h0 (Rat.num_eq_zero.1 e))), div_divInt]

theorem cmpR_lt {p q : Rat} (h : p < q) : cmpR p q = -1 := by
  unfold cmpR
  have := (Rat.lt_iff p q).1 h
  exact sgn_of_lt (by omega)
theorem cmpR_gt {p q : Rat} (h : q < p) : cmpR p q = 1 := by
  unfold cmpR
  have := (Rat.lt_iff q p).1 h
  exact sgn_of_gt (by omega)
theorem cmpR_self (p : Rat) : cmpR p p = 0 := by
  unfold cmpR; exact sgn_of_eq (by omega)
theorem rat_cases (p q : Rat) : p < q ∨ p = q ∨ q < p := by
  rcases Rat.le_iff_lt_or_eq.1 (show p ≤ p from Rat.le_refl) with h | h
  · exact absurd h Rat.lt_irrefl
  · by_cases h1 : p < q
    · exact .inl h1
    · rcases Rat.le_iff_lt_or_eq.1 (Rat.not_lt.1 h1) with h2 | h2
      · exact .inr (.inr h2)
      · exact .inr (.inl h2.symm)
theorem cmpR_neg (p q : Rat) : cmpR q p = -cmpR p q := by
  unfold cmpR; rw [← sgn_neg]; congr 1; omega

end Go.Proofs.Dt

namespace Go.Proofs.Dt

/-- What is returned. -/
def out (o : Option Rat) : ByteArray × ByteArray × Int := (nS o, dS o, cS o)
/-- Two strings are a fraction. -/
def Fr (x y : ByteArray) (q : Rat) : Prop := x = sx q.num ∧ y = sx (q.den : Int) ∧ q.num.natAbs < limit ∧ q.den < limit
theorem Fr.exists {q : Rat} (h : q.num.natAbs < limit) (h2 : q.den < limit) : ∃ x y, Fr x y q := ⟨_, _, rfl, rfl, h, h2⟩
theorem Fr.frac {x y : ByteArray} {q : Rat} (h : Fr x y q) : frac x.data.toList y.data.toList = some q := by
  rw [h.1, h.2.1]; exact frac_of h.2.2.1 h.2.2.2
theorem Fr.of_frac {x y : ByteArray} {q : Rat} (h : Dt.frac x.data.toList y.data.toList = some q) : Fr x y q := by
  obtain ⟨h1, h2, h3, h4⟩ := frac_some h
  refine ⟨?_, ?_, h3, h4⟩
  · unfold sx; rw [← h1]
  · unfold sx; rw [← h2]
theorem Fr.fits {x y : ByteArray} {q : Rat} (h : Fr x y q) : Fits (some q) := fun p e => by cases e; exact h.2.2
theorem Fr.of_fits {q : Rat} (h : Fits (some q)) : ∃ x y, Fr x y q := Fr.exists (h q rfl).1 (h q rfl).2
theorem sx_inj {a b : Int} (h : sx a = sx b) : a = b := str_inj (by rw [← sx_list a, ← sx_list b, h])
theorem Fr.inj {x y u v : ByteArray} {p q : Rat} (h : Fr x y p) (k : Fr u v q) : (x = u ∧ y = v) ↔ p = q := by
  constructor
  · rintro ⟨e1, e2⟩
    rw [h.1, k.1] at e1
    rw [h.2.1, k.2.1] at e2
    exact Rat.ext (sx_inj e1) (by have := sx_inj e2; omega)
  · intro e; subst e; exact ⟨by rw [h.1, k.1], by rw [h.2.1, k.2.1]⟩
theorem Fr.same {x y u v : ByteArray} {p : Rat} (h : Fr x y p) (k : Fr u v p) : x = u ∧ y = v := (h.inj k).2 rfl
theorem out_fr {u v : ByteArray} {r : Rat} (h : Fr u v r) : out (some r) = (u, v, 0) := by
  unfold out nS dS cS; rw [h.1, h.2.1]
theorem out_none : out none = (⟨#[]⟩, ⟨#[]⟩, 40) := rfl
/-- Whatever is returned is a fraction, or nothing. -/
theorem out_cases {o : Option Rat} (hf : Fits o) : (o = none ∧ out o = (⟨#[]⟩, ⟨#[]⟩, 40)) ∨ ∃ r u v, o = some r ∧ Fr u v r ∧ out o = (u, v, 0) := by
  cases o with
  | none => exact .inl ⟨rfl, rfl⟩
  | some r =>
    obtain ⟨u, v, h⟩ := Fr.of_fits hf
    exact .inr ⟨r, u, v, rfl, h, out_fr h⟩
theorem Fr.literal {x y : ByteArray} {q : Rat} (h : Dt.frac x.data.toList y.data.toList = some q) : Fr x y q := Fr.of_frac h

section
variable {x y x' y' : ByteArray} {p q : Rat}
theorem addO_fr (hx : Fr x y p) (hy : Fr x' y' q) : addO (frac x.data.toList y.data.toList) (frac x'.data.toList y'.data.toList) = sumR (· + ·) p q := by rw [hx.frac, hy.frac]; rfl
theorem subO_fr (hx : Fr x y p) (hy : Fr x' y' q) : subO (frac x.data.toList y.data.toList) (frac x'.data.toList y'.data.toList) = sumR (· - ·) p q := by rw [hx.frac, hy.frac]; rfl
theorem mulO_fr (hx : Fr x y p) (hy : Fr x' y' q) : mulO (frac x.data.toList y.data.toList) (frac x'.data.toList y'.data.toList) = mulR p q := by rw [hx.frac, hy.frac]; rfl
theorem divO_fr (hx : Fr x y p) (hy : Fr x' y' q) : divO (frac x.data.toList y.data.toList) (frac x'.data.toList y'.data.toList) = divR p q := by rw [hx.frac, hy.frac]; rfl
theorem cmpO_fr (hx : Fr x y p) (hy : Fr x' y' q) : cmpO (frac x.data.toList y.data.toList) (frac x'.data.toList y'.data.toList) = cmpR p q := by rw [hx.frac, hy.frac]; rfl
end
theorem lift2_none_left {f : Rat → Rat → Option Rat} {b : Option Rat} : lift2 f none b = none := by cases b <;> rfl
theorem lift2_none_right {f : Rat → Rat → Option Rat} {a : Option Rat} : lift2 f a none = none := by cases a <;> rfl

end Go.Proofs.Dt
