/- Rounding to the grid of a power of ten, as rational numbers: plain. -/
import Derived.Test.YtjjmabokoendbaaGreatDoorLB
namespace Go.Proofs.Dt
theorem sgn_scale {s t X Y : Int} (hs : 0 < s) (ht : 0 < t) (h : s * X = t * Y) : sgn X = sgn Y := by
  rcases Int.lt_trichotomy X 0 with k | k | k
  · have h1 : s * X < 0 := Int.mul_neg_of_pos_of_neg hs k
    have : Y < 0 := by
      rcases Int.lt_or_le Y 0 with h2 | h2
      · exact h2
      · have := Int.mul_nonneg (by omega : 0 ≤ t) h2; omega
    rw [sgn_of_lt k, sgn_of_lt this]
  · subst k
    rw [Int.mul_zero] at h
    rcases Int.mul_eq_zero.1 h.symm with h2 | h2
    · omega
    · rw [h2]
  · have h1 : 0 < s * X := Int.mul_pos hs k
    have : 0 < Y := by
      rcases Int.lt_or_le 0 Y with h2 | h2
      · exact h2
      · have := Int.mul_nonpos_of_nonneg_of_nonpos (by omega : 0 ≤ t) h2; omega
    rw [sgn_of_gt k, sgn_of_gt this]
theorem gten_lim {k : Nat} (h : k < 200) : (((10 ^ k : Nat) : Int)).natAbs < limit := by
  rw [Int.natAbs_natCast]; unfold limit; exact Nat.pow_lt_pow_right (by decide) h
theorem divInt_cross {N D : Int} (hD : 0 < D) : (Rat.divInt N D).num * D = N * ((Rat.divInt N D).den : Int) := by
  have h := Rat.num_divInt_den (Rat.divInt N D)
  exact (Rat.divInt_eq_divInt_iff (den_ne _) (by omega)).1 h
theorem fr_lit {x y : ByteArray} {q : Rat} (h : frac x.data.toList y.data.toList = some q) : Fr x y q := Fr.of_frac h

section
variable {T : Int} (hT : 0 < T)
include hT
/-- A multiple of the grid. -/
theorem grid_num (k : Int) : (Rat.divInt k T).num.natAbs ≤ k.natAbs ∧ (Rat.divInt k T).den ≤ T.natAbs := divInt_le hT
theorem grid_cmp (k : Int) (R : Rat) : cmpR (Rat.divInt k T) R = sgn (k * R.den - R.num * T) := by
  unfold cmpR
  have h := divInt_cross (N := k) hT
  have hd := (Rat.divInt k T).den_pos
  generalize (Rat.divInt k T).num = A at *
  generalize (Rat.divInt k T).den = B at *
  refine sgn_scale hT (show 0 < (B : Int) by omega) ?_
  grind
theorem grid_again (k : Int) : (Rat.divInt k T).num * T / ((Rat.divInt k T).den : Int) = k ∧ (Rat.divInt k T).num * T % ((Rat.divInt k T).den : Int) = 0 := by
  rw [divInt_cross hT]
  have hd := (Rat.divInt k T).den_pos
  exact ⟨Int.mul_ediv_cancel _ (by omega), Int.mul_emod_left _ _⟩
theorem grid_times (k : Int) : Rat.divInt k T * Rat.divInt T 1 = Rat.divInt k 1 := by
  rw [Rat.divInt_mul_divInt]
  exact (Rat.divInt_eq_divInt_iff (by omega) (by omega)).2 (by grind)
omit hT in
theorem grid_minus (k : Int) : Rat.divInt (-k) T = -Rat.divInt k T := (Rat.neg_divInt k T).symm
theorem grid_next (k : Int) : Rat.divInt (k + 1) T - Rat.divInt k T = Rat.divInt 1 T := by
  rw [Rat.divInt_sub_divInt _ _ (by omega) (by omega)]
  exact (Rat.divInt_eq_divInt_iff (Int.mul_ne_zero (by omega) (by omega)) (by omega)).2 (by grind)
end
theorem floor_unique {n d q r : Int} (h : r + d * q = n) (h0 : 0 ≤ r) (h1 : r < d) : n / d = q ∧ n % d = r :=
  (Int.ediv_emod_unique (by omega)).2 ⟨h, h0, h1⟩
/-- The floor of what is the other way round. -/
theorem quot_minus {n d : Int} (hd : 0 < d) : quotR false (-n) d = -quotR true n d := by
  have e := Int.emod_add_mul_ediv n d
  have r0 := Int.emod_nonneg n (show d ≠ 0 by omega)
  have r1 := Int.emod_lt_of_pos n hd
  unfold quotR
  simp only [Bool.false_and, Bool.true_and, decide_eq_true_eq, Bool.false_eq_true, if_false]
  split
  · rename_i h
    exact (floor_unique (r := d - n % d) (by grind) (by omega) (by omega)).1
  · rename_i h
    exact (floor_unique (r := 0) (by grind) (by omega) (by omega)).1
theorem quot_exact {up : Bool} {n d k : Int} (h1 : n / d = k) (h2 : n % d = 0) : quotR up n d = k := by unfold quotR; rw [h1, h2]; simp
theorem quot_up {n d : Int} : (n % d = 0 ∧ quotR true n d = quotR false n d) ∨ (n % d ≠ 0 ∧ quotR true n d = quotR false n d + 1) := by
  unfold quotR
  by_cases h : n % d = 0
  · exact .inl ⟨h, by simp [h]⟩
  · exact .inr ⟨h, by simp [h]⟩
theorem neg_parts (R : Rat) : (0 - R).num = -R.num ∧ (0 - R).den = R.den := by
  have : 0 - R = -R := by grind
  rw [this]; exact ⟨rfl, rfl⟩
theorem sub_zero_ok {R : Rat} (h1 : R.num.natAbs < limit) (h2 : R.den < limit) : sumR (· - ·) 0 R = some (0 - R) := by
  refine subR_ok ?_ ?_ ?_ ?_
  · show ((0 : Int) * (R.den : Int)).natAbs < limit; rw [Int.zero_mul]; exact lim_zero
  · show (R.num * ((1 : Nat) : Int)).natAbs < limit; omega
  · show ((0 : Int) * (R.den : Int) - R.num * ((1 : Nat) : Int)).natAbs < limit; rw [Int.zero_mul]; omega
  · show (((1 : Nat) : Int) * (R.den : Int)).natAbs < limit; omega
theorem gone_over {k : Nat} : (Rat.divInt 1 ((10 ^ k : Nat) : Int)).num = 1 ∧ ((Rat.divInt 1 ((10 ^ k : Nat) : Int)).den : Int) = ((10 ^ k : Nat) : Int) :=
  divInt_low (ten_pos k) (by rw [Int.gcd_comm]; simp)
theorem gone_over_fr {k : Nat} (h : k < 200) : Fr ⟨#[49]⟩ (ten k) (Rat.divInt 1 ((10 ^ k : Nat) : Int)) :=
  ⟨by rw [gone_over.1]; exact Is.one, by rw [gone_over.2]; exact ten_is k, by rw [gone_over.1]; exact small_limit (by decide), by have := gten_lim h; have := (gone_over (k := k)).2; omega⟩
theorem whole_fr {x : ByteArray} {k : Int} (h : Is x k) (hl : k.natAbs < limit) : Fr x ⟨#[49]⟩ (Rat.divInt k 1) := by
  obtain ⟨e1, e2⟩ := divInt_low (N := k) (D := 1) (by decide) (by simp)
  exact ⟨by rw [e1]; exact h, by rw [e2]; exact Is.one, by rw [e1]; exact hl, by have : (1 : Nat) < limit := by { unfold limit; exact Nat.one_lt_pow (by decide) (by decide) }; omega⟩
theorem gmul_lim {a b : Int} {i j : Nat} (ha : a.natAbs < 10 ^ i) (hb : b.natAbs ≤ 10 ^ j) (h : i + j ≤ 199) : 2 * (a * b).natAbs < limit := by
  rw [Int.natAbs_mul]
  have h1 : a.natAbs * b.natAbs ≤ a.natAbs * 10 ^ j := Nat.mul_le_mul_left _ hb
  have h2 : a.natAbs * 10 ^ j < 10 ^ i * 10 ^ j := Nat.mul_lt_mul_of_pos_right ha (Nat.pow_pos (by decide))
  rw [← Nat.pow_add] at h2
  have h3 : 10 ^ (i + j) ≤ 10 ^ 199 := Nat.pow_le_pow_right (by decide) h
  have h4 : limit = 10 ^ 199 * 10 := by unfold limit; rw [← Nat.pow_succ]
  omega
theorem gmul_lt {a b : Int} {i j : Nat} (ha : a.natAbs < 10 ^ i) (hb : b.natAbs ≤ 10 ^ j) : (a * b).natAbs < 10 ^ (i + j) := by
  rw [Int.natAbs_mul, Nat.pow_add]
  exact Nat.lt_of_le_of_lt (Nat.mul_le_mul_left _ hb) (Nat.mul_lt_mul_of_pos_right ha (Nat.pow_pos (by decide)))
theorem round_at {R : Rat} {up : Bool} {p : Nat} {k : Int} (h : ok (R.num * ((10 ^ p : Nat) : Int)) = true) (hq : quotR up (R.num * ((10 ^ p : Nat) : Int)) R.den = k) : roundR up R p = some (Rat.divInt k ((10 ^ p : Nat) : Int)) := by
  unfold roundR
  rw [if_pos h, hq, makeR_some (by have := ten_pos p; omega)]
def grid01 : Option Rat := frac (⟨#[48]⟩ : ByteArray).data.toList (⟨#[49]⟩ : ByteArray).data.toList
theorem grid_facts {R : Rat} {x y : ByteArray} (F : Fr x y R) (h1 : R.num.natAbs < 10 ^ 100) (h2 : R.den < 10 ^ 100) {p : Nat} (hp : p ≤ 30) :
    ∃ a1 a2 b1 b2 c1 c2 m1 m2 n1 w1 w2 qa qb,
      out (roundO false (frac x.data.toList y.data.toList) p) = (a1, a2, 0) ∧
      out (roundO true (frac x.data.toList y.data.toList) p) = (b1, b2, 0) ∧
      out (subO grid01 (frac x.data.toList y.data.toList)) = (m1, m2, 0) ∧
      out (roundO false (frac m1.data.toList m2.data.toList) p) = (c1, c2, 0) ∧
      out (subO grid01 (frac c1.data.toList c2.data.toList)) = (b1, b2, 0) ∧
      cmpO (frac a1.data.toList a2.data.toList) (frac x.data.toList y.data.toList) = qa ∧
      cmpO (frac b1.data.toList b2.data.toList) (frac x.data.toList y.data.toList) = qb ∧
      out (roundO false (frac b1.data.toList b2.data.toList) p) = (b1, b2, 0) ∧
      out (roundO true (frac a1.data.toList a2.data.toList) p) = (a1, a2, 0) ∧
      out (mulO (frac a1.data.toList a2.data.toList) (frac (ten p).data.toList (⟨#[49]⟩ : ByteArray).data.toList)) = (n1, ⟨#[49]⟩, 0) ∧
      out (subO (frac b1.data.toList b2.data.toList) (frac a1.data.toList a2.data.toList)) = (w1, w2, 0) ∧
      ((qa = 0 ∧ qb = 0 ∧ w1 = ⟨#[48]⟩ ∧ w2 = ⟨#[49]⟩) ∨ (qa = -1 ∧ qb = 1 ∧ w1 = ⟨#[49]⟩ ∧ w2 = ten p)) := by
  have hT : 0 < ((10 ^ p : Nat) : Int) := ten_pos p
  have hTb : ((10 ^ p : Nat) : Int).natAbs ≤ 10 ^ 30 := by rw [Int.natAbs_natCast]; exact Nat.pow_le_pow_right (by decide) hp
  have hd : 0 < (R.den : Int) := by have := R.den_pos; omega
  have hn : (R.num * ((10 ^ p : Nat) : Int)).natAbs < 10 ^ 130 := gmul_lt h1 hTb
  have hlo := quotR_le (up := false) (n := R.num * ((10 ^ p : Nat) : Int)) hd
  have hhi := quotR_le (up := true) (n := R.num * ((10 ^ p : Nat) : Int)) hd
  have hqu := quot_up (n := R.num * ((10 ^ p : Nat) : Int)) (d := (R.den : Int))
  have hqm := quot_minus (n := R.num * ((10 ^ p : Nat) : Int)) hd
  have e0 := Int.emod_add_mul_ediv (R.num * ((10 ^ p : Nat) : Int)) (R.den : Int)
  have r0 := Int.emod_nonneg (R.num * ((10 ^ p : Nat) : Int)) (show (R.den : Int) ≠ 0 by omega)
  have r1 := Int.emod_lt_of_pos (R.num * ((10 ^ p : Nat) : Int)) hd
  have hlim : 10 ^ 130 < limit := by unfold limit; exact Nat.pow_lt_pow_right (by decide) (by decide)
  have hlim2 : 10 ^ 100 < limit := by unfold limit; exact Nat.pow_lt_pow_right (by decide) (by decide)
  have hlim3 : 10 ^ 30 < limit := by unfold limit; exact Nat.pow_lt_pow_right (by decide) (by decide)
  have hokn : ok (R.num * ((10 ^ p : Nat) : Int)) = true := lt_ok (by omega)
  obtain ⟨lo, elo⟩ : ∃ lo, lo = quotR false (R.num * ((10 ^ p : Nat) : Int)) R.den := ⟨_, rfl⟩
  obtain ⟨hi, ehi⟩ : ∃ hi, hi = quotR true (R.num * ((10 ^ p : Nat) : Int)) R.den := ⟨_, rfl⟩
  have elo' : lo = R.num * ((10 ^ p : Nat) : Int) / R.den := elo.trans (by unfold quotR; simp)
  rw [← elo] at hlo hqu
  rw [← ehi] at hhi hqu hqm
  rw [← elo'] at e0
  have kA := grid_num hT lo
  have kB := grid_num hT hi
  have kC := grid_num hT (-hi)
  have bA : (Rat.divInt lo ((10 ^ p : Nat) : Int)).num.natAbs < 10 ^ 130 := by omega
  have bB : (Rat.divInt hi ((10 ^ p : Nat) : Int)).num.natAbs < 10 ^ 130 := by omega
  have dA : ((Rat.divInt lo ((10 ^ p : Nat) : Int)).den : Int).natAbs ≤ 10 ^ 30 := by omega
  have dB : ((Rat.divInt hi ((10 ^ p : Nat) : Int)).den : Int).natAbs ≤ 10 ^ 30 := by omega
  obtain ⟨a1, a2, FA⟩ := Fr.exists (q := Rat.divInt lo ((10 ^ p : Nat) : Int)) (by omega) (by omega)
  obtain ⟨b1, b2, FB⟩ := Fr.exists (q := Rat.divInt hi ((10 ^ p : Nat) : Int)) (by omega) (by omega)
  obtain ⟨c1, c2, FC⟩ := Fr.exists (q := Rat.divInt (-hi) ((10 ^ p : Nat) : Int)) (by omega) (by omega)
  obtain ⟨np1, np2⟩ := neg_parts R
  obtain ⟨m1, m2, FM⟩ := Fr.exists (q := 0 - R) (by rw [np1]; omega) (by rw [np2]; omega)
  obtain ⟨n1, IN⟩ := Is.exists lo
  have FN := whole_fr IN (by omega)
  have FT : Fr (ten p) ⟨#[49]⟩ (Rat.divInt ((10 ^ p : Nat) : Int) 1) := whole_fr (ten_is p) (gten_lim (by omega))
  obtain ⟨t1, t2⟩ := divInt_low (N := ((10 ^ p : Nat) : Int)) (D := 1) (by decide) (by simp)
  have f0 : grid01 = some 0 := fr_zero.frac
  have gA := grid_again hT lo
  have gB := grid_again hT hi
  have okA := lt_ok (show ((Rat.divInt lo ((10 ^ p : Nat) : Int)).num * ((10 ^ p : Nat) : Int)).natAbs < limit by have := gmul_lim bA hTb (by decide); omega)
  have okB := lt_ok (show ((Rat.divInt hi ((10 ^ p : Nat) : Int)).num * ((10 ^ p : Nat) : Int)).natAbs < limit by have := gmul_lim bB hTb (by decide); omega)
  have sub : sumR (· - ·) (Rat.divInt hi ((10 ^ p : Nat) : Int)) (Rat.divInt lo ((10 ^ p : Nat) : Int)) = some (Rat.divInt hi ((10 ^ p : Nat) : Int) - Rat.divInt lo ((10 ^ p : Nat) : Int)) := by
    have s1 := gmul_lim bB dA (by decide)
    have s2 := gmul_lim bA dB (by decide)
    refine subR_ok (by omega) (by omega) (by omega) ?_
    have : ((Rat.divInt hi ((10 ^ p : Nat) : Int)).den : Int).natAbs < 10 ^ 31 := by omega
    have := gmul_lim this dA (by decide)
    omega
  have core : ∃ w1 w2, Fr w1 w2 (Rat.divInt hi ((10 ^ p : Nat) : Int) - Rat.divInt lo ((10 ^ p : Nat) : Int)) ∧
      ((cmpR (Rat.divInt lo ((10 ^ p : Nat) : Int)) R = 0 ∧ cmpR (Rat.divInt hi ((10 ^ p : Nat) : Int)) R = 0 ∧ w1 = ⟨#[48]⟩ ∧ w2 = ⟨#[49]⟩) ∨ (cmpR (Rat.divInt lo ((10 ^ p : Nat) : Int)) R = -1 ∧ cmpR (Rat.divInt hi ((10 ^ p : Nat) : Int)) R = 1 ∧ w1 = ⟨#[49]⟩ ∧ w2 = ten p)) := by
    rcases hqu with ⟨hr, he⟩ | ⟨hr, he⟩
    · refine ⟨⟨#[48]⟩, ⟨#[49]⟩, by rw [he, Rat.sub_self]; exact fr_zero, .inl ⟨?_, ?_, rfl, rfl⟩⟩
      · rw [grid_cmp hT]; exact sgn_of_eq (by rw [Int.mul_comm lo]; omega)
      · rw [grid_cmp hT]; exact sgn_of_eq (by rw [he, Int.mul_comm lo]; omega)
    · refine ⟨⟨#[49]⟩, ten p, by rw [he, grid_next hT]; exact gone_over_fr (by omega), .inr ⟨?_, ?_, rfl, rfl⟩⟩
      · rw [grid_cmp hT]; exact sgn_of_lt (by rw [Int.mul_comm lo]; omega)
      · rw [grid_cmp hT]; exact sgn_of_gt (by rw [he, Int.add_mul, Int.mul_comm lo]; omega)
  obtain ⟨w1, w2, FW, hw⟩ := core
  refine ⟨a1, a2, b1, b2, c1, c2, m1, m2, n1, w1, w2, _, _, ?_, ?_, ?_, ?_, ?_, cmpO_fr FA F, cmpO_fr FB F, ?_, ?_, ?_, ?_, hw⟩
  · rw [F.frac, roundO_in hp, round_at hokn elo.symm]; exact out_fr FA
  · rw [F.frac, roundO_in hp, round_at hokn ehi.symm]; exact out_fr FB
  · rw [f0, F.frac]; show out (sumR (· - ·) 0 R) = _; rw [sub_zero_ok (by omega) (by omega)]; exact out_fr FM
  · rw [FM.frac, roundO_in hp, round_at (k := -hi) (by rw [np1, Int.neg_mul]; exact lt_ok (by omega)) (by rw [np1, np2, Int.neg_mul]; exact hqm)]; exact out_fr FC
  · rw [f0, FC.frac]; show out (sumR (· - ·) 0 _) = _
    rw [sub_zero_ok (by omega) (by omega), grid_minus, show (0 : Rat) - -Rat.divInt hi ((10 ^ p : Nat) : Int) = Rat.divInt hi ((10 ^ p : Nat) : Int) by grind]; exact out_fr FB
  · rw [FB.frac, roundO_in hp, round_at (k := hi) okB (quot_exact gB.1 gB.2)]; exact out_fr FB
  · rw [FA.frac, roundO_in hp, round_at (k := lo) okA (quot_exact gA.1 gA.2)]; exact out_fr FA
  · rw [mulO_fr FA FT, mulR_ok (by rw [t1]; exact ok_lt okA) (by rw [t2]; omega), grid_times hT]; exact out_fr FN
  · rw [subO_fr FB FA, sub]; exact out_fr FW
end Go.Proofs.Dt
