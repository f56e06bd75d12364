/- The order of rational numbers under sums and products; what the operations give in strings: plain. -/
import Derived.Test.YtjjmabokoendbaaGreatDoorPB
namespace Go.Proofs.Dt
theorem cmp_sub (A B : Rat) : cmpR (A - B) 0 = cmpR A B := by
  rcases rat_cases A B with h | h | h
  · rw [cmpR_lt h, cmpR_lt (by grind)]
  · subst h; rw [Rat.sub_self, cmpR_self, cmpR_self]
  · rw [cmpR_gt h, cmpR_gt (by grind)]
theorem cmp_add (A B T : Rat) : cmpR (A + T) (B + T) = cmpR A B := by
  rcases rat_cases A B with h | h | h
  · rw [cmpR_lt h, cmpR_lt (by grind)]
  · subst h; rw [cmpR_self, cmpR_self]
  · rw [cmpR_gt h, cmpR_gt (by grind)]
theorem mul_neg_lt {A B T : Rat} (h : A < B) (hT : T < 0) : B * T < A * T := by
  have h1 := Rat.mul_lt_mul_of_pos_right h (show 0 < -T by grind)
  rw [Rat.mul_neg, Rat.mul_neg] at h1
  grind
theorem cmp_mul (A B T : Rat) : cmpR (A * T) (B * T) = cmpR A B * cmpR T 0 := by
  rcases rat_cases T 0 with k | k | k
  · rw [cmpR_lt k]
    rcases rat_cases A B with h | h | h
    · rw [cmpR_lt h, cmpR_gt (mul_neg_lt h k)]; rfl
    · subst h; rw [cmpR_self, cmpR_self]; rfl
    · rw [cmpR_gt h, cmpR_lt (mul_neg_lt h k)]; rfl
  · subst k; rw [Rat.mul_zero, Rat.mul_zero, cmpR_self]; omega
  · rw [cmpR_gt k]
    rcases rat_cases A B with h | h | h
    · rw [cmpR_lt h, cmpR_lt (Rat.mul_lt_mul_of_pos_right h k)]; rfl
    · subst h; rw [cmpR_self, cmpR_self]; rfl
    · rw [cmpR_gt h, cmpR_gt (Rat.mul_lt_mul_of_pos_right h k)]; rfl
theorem cmpR_in (A B : Rat) : -1 ≤ cmpR A B ∧ cmpR A B ≤ 1 := by
  rcases rat_cases A B with h | h | h
  · rw [cmpR_lt h]; decide
  · subst h; rw [cmpR_self]; decide
  · rw [cmpR_gt h]; decide
theorem fr_zero : Fr ⟨#[48]⟩ ⟨#[49]⟩ 0 := Fr.of_frac (by decide +kernel)

/-- The outcome of an operation: nothing, or the fraction r. -/
def Gave (u v : ByteArray) (c : Int) (r : Rat) : Prop := (c = 40 ∧ u = ⟨#[]⟩ ∧ v = ⟨#[]⟩) ∨ (c = 0 ∧ Fr u v r)
theorem gave_of {o : Option Rat} {r : Rat} (hf : Fits o) (h : ∀ q, o = some q → q = r) : ∃ u v c, out o = (u, v, c) ∧ Gave u v c r := by
  rcases out_cases hf with ⟨_, e⟩ | ⟨q, u, v, rfl, hq, e⟩
  · exact ⟨_, _, _, e, .inl ⟨rfl, rfl, rfl⟩⟩
  · obtain rfl := h q rfl
    exact ⟨_, _, _, e, .inr ⟨rfl, hq⟩⟩
section
variable {x y x' y' : ByteArray} {p q : Rat}
theorem gave_add (hx : Fr x y p) (hy : Fr x' y' q) : ∃ u v c, out (addO (frac x.data.toList y.data.toList) (frac x'.data.toList y'.data.toList)) = (u, v, c) ∧ Gave u v c (p + q) := by
  rw [addO_fr hx hy]; exact gave_of (sumR_fits _ _ _) fun _ h => sumR_plus h
theorem gave_sub (hx : Fr x y p) (hy : Fr x' y' q) : ∃ u v c, out (subO (frac x.data.toList y.data.toList) (frac x'.data.toList y'.data.toList)) = (u, v, c) ∧ Gave u v c (p - q) := by
  rw [subO_fr hx hy]; exact gave_of (sumR_fits _ _ _) fun _ h => sumR_minus h
theorem gave_mul (hx : Fr x y p) (hy : Fr x' y' q) : ∃ u v c, out (mulO (frac x.data.toList y.data.toList) (frac x'.data.toList y'.data.toList)) = (u, v, c) ∧ Gave u v c (p * q) := by
  rw [mulO_fr hx hy]; exact gave_of (mulR_fits _ _) fun _ h => mulR_times h
theorem gave_div (hx : Fr x y p) (hy : Fr x' y' q) : ∃ u v c, out (divO (frac x.data.toList y.data.toList) (frac x'.data.toList y'.data.toList)) = (u, v, c) ∧ Gave u v c (p / q) := by
  rw [divO_fr hx hy]; exact gave_of (divR_fits _ _) fun _ h => (divR_over h).2
end
theorem Gave.ok {u v : ByteArray} {r : Rat} (h : Gave u v 0 r) : Fr u v r := by
  rcases h with ⟨h, _⟩ | ⟨_, h⟩
  · cases h
  · exact h
theorem Gave.code {u v : ByteArray} {c : Int} {r : Rat} (h : Gave u v c r) : c = 40 ∨ c = 0 := by
  rcases h with ⟨h, _⟩ | ⟨h, _⟩ <;> omega
end Go.Proofs.Dt
