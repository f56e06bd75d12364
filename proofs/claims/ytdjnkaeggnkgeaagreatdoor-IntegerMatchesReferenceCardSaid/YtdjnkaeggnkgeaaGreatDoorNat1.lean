/- Plain facts on numbers: roots, common divisors, quotients, bounds. -/
import Derived.Test.YtdjnkaeggnkgeaaGreatDoorDec
namespace Go.Proofs.Dt

/-- r is the greatest number whose square is at most n. -/
def IsRoot (r n : Nat) : Prop := r * r ≤ n ∧ n < (r + 1) * (r + 1)

theorem IsRoot.inj {r s n : Nat} (h : IsRoot r n) (k : IsRoot s n) : r = s := by
  rcases Nat.lt_trichotomy r s with e | e | e
  · have := Nat.mul_le_mul (show r + 1 ≤ s from e) (show r + 1 ≤ s from e)
    have h2 := h.2; have h3 := k.1; omega
  · exact e
  · have := Nat.mul_le_mul (show s + 1 ≤ r from e) (show s + 1 ≤ r from e)
    have h2 := k.2; have h3 := h.1; omega

theorem IsRoot.exists (n : Nat) : ∃ r, IsRoot r n := by
  have : ∀ k, ∃ r, r * r ≤ n ∧ (n < (r + 1) * (r + 1) ∨ k ≤ r) := by
    intro k
    induction k with
    | zero => exact ⟨0, by omega, Or.inr (Nat.le_refl _)⟩
    | succ k ih =>
      obtain ⟨r, h1, h2⟩ := ih
      rcases Nat.lt_or_ge n ((r + 1) * (r + 1)) with h | h
      · exact ⟨r, h1, Or.inl h⟩
      · rcases h2 with h2 | h2
        · omega
        · exact ⟨r + 1, h, Or.inr (by omega)⟩
  obtain ⟨r, h1, h2⟩ := this (n + 1)
  rcases h2 with h2 | h2
  · exact ⟨r, h1, h2⟩
  · have := Nat.mul_le_mul h2 h2
    have : (n + 1) * 1 ≤ (n + 1) * (n + 1) := Nat.mul_le_mul_left _ (by omega)
    omega

theorem IsRoot.square (r : Nat) : IsRoot r (r * r) := ⟨Nat.le_refl _, by rw [Nat.add_mul, Nat.mul_add]; omega⟩

/-- A step of Newton's stays at or above the root. -/
theorem newton_ge {s n r : Nat} (hs : s * s ≤ n) (hr : 0 < r) : s ≤ (r + n / r) / 2 := by
  have h : 2 * s ≤ r + n / r := by
    rcases Nat.lt_or_ge (2 * s) r with h | h
    · exact Nat.le_trans (Nat.le_of_lt h) (Nat.le_add_right _ _)
    · have h1 : 2 * s - r ≤ n / r := by
        rw [Nat.le_div_iff_mul_le hr]
        refine Nat.le_trans ?_ hs
        rcases Nat.le_total r s with h2 | h2
        · obtain ⟨d, rfl⟩ := Nat.exists_eq_add_of_le h2
          have : 2 * (r + d) - r = r + 2 * d := by omega
          rw [this]; grind
        · obtain ⟨d, rfl⟩ := Nat.exists_eq_add_of_le h2
          have e : 2 * s - (s + d) = s - d := by omega
          rw [e]
          obtain ⟨c, rfl⟩ := Nat.exists_eq_add_of_le (show d ≤ s by omega)
          rw [show d + c - d = c by omega]
          grind
      omega
  omega

/-- Where it does not fall, it stands at the root. -/
theorem newton_stop {s n r : Nat} (h : IsRoot s n) (hr : 0 < r) (hrs : s ≤ r) (hst : r ≤ (r + n / r) / 2) : r = s := by
  have h1 : r ≤ n / r := by omega
  rw [Nat.le_div_iff_mul_le hr] at h1
  rcases Nat.lt_or_ge s r with e | e
  · have := Nat.mul_le_mul (show s + 1 ≤ r from e) (show s + 1 ≤ r from e)
    have := h.2; omega
  · omega

theorem IsRoot.lt {s n k : Nat} (h : IsRoot s n) (hn : n < k * k) : s < k := by
  rcases Nat.lt_or_ge s k with e | e
  · exact e
  · have := Nat.mul_le_mul e e; have := h.1; omega

theorem IsRoot.pos {s n : Nat} (h : IsRoot s n) (hn : 0 < n) : 0 < s := by
  rcases Nat.eq_zero_or_pos s with e | e
  · subst e; have := h.2; omega
  · exact e

/-- Bounds by digits. -/
def Bd (k : Nat) (x : Int) : Prop := x.natAbs < 10 ^ k

theorem Bd.mono {a b : Nat} {x : Int} (h : Bd a x) (hab : a ≤ b) : Bd b x := Nat.lt_of_lt_of_le h (Nat.pow_le_pow_right (by decide) hab)
theorem Bd.mul {a b : Nat} {x y : Int} (h : Bd a x) (k : Bd b y) : Bd (a + b) (x * y) := by
  unfold Bd at *
  rw [Int.natAbs_mul, Nat.pow_add]
  exact Nat.mul_lt_mul'' h k
theorem Bd.add {a : Nat} {x y : Int} (h : Bd a x) (k : Bd a y) : Bd (a + 1) (x + y) := by
  unfold Bd at *
  rw [Nat.pow_succ]; omega
theorem Bd.sub {a : Nat} {x y : Int} (h : Bd a x) (k : Bd a y) : Bd (a + 1) (x - y) := by
  unfold Bd at *
  rw [Nat.pow_succ]; omega
theorem Bd.neg {a : Nat} {x : Int} (h : Bd a x) : Bd a (-x) := by unfold Bd at *; omega
theorem Bd.limit {a : Nat} {x : Int} (h : Bd a x) (ha : a ≤ 200) : x.natAbs < limit := h.mono ha
theorem Bd.div {a : Nat} {x : Int} (h : Bd a x) (y : Int) : Bd a (x / y) := by
  unfold Bd at *
  have : (x / y).natAbs ≤ x.natAbs := Int.natAbs_ediv_le_natAbs x y
  omega

end Go.Proofs.Dt
