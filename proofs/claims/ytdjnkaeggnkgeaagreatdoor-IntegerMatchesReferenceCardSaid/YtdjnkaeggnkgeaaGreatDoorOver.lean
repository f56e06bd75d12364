/- 'over': the quotient and the remainder of two numbers. -/
import Derived.Test.YtdjnkaeggnkgeaaGreatDoorAppSrc
namespace Go.Proofs.Tryz
open Go.RowKit Go.Proofs.Dt Go.Shelf

attribute [local go_sem] Oper.semAt_some

/-- What a round does: the digits so far, and what is left. -/
def ostep (xs : List Int) (m : Nat) (s : (Nat → Int) × Nat) (x : Fin xs.length) : (Nat → Int) × Nat :=
  (fun j => if j = x.val then ((((grp xs x).toNat + 10000 * s.2) / m : Nat) : Int) else s.1 j, ((grp xs x).toNat + 10000 * s.2) % m)
def ofold (xs : List Int) (m : Nat) (pre : List (Fin xs.length)) : (Nat → Int) × Nat := pre.foldl (ostep xs m) (fun _ => 0, 0)
theorem ofold_nil (xs : List Int) (m : Nat) : ofold xs m [] = (fun _ => 0, 0) := rfl
theorem ofold_snoc (xs : List Int) (m : Nat) (pre : List (Fin xs.length)) (x : Fin xs.length) : ofold xs m (pre ++ [x]) = ostep xs m (ofold xs m pre) x := by simp [ofold]
theorem ofold_lt (xs : List Int) {m : Nat} (hm : 0 < m) (pre : List (Fin xs.length)) : (ofold xs m pre).2 < m := by
  induction pre using snoc_induction with
  | h0 => exact hm
  | h1 l a _ => rw [ofold_snoc]; exact Nat.mod_lt _ hm
theorem grp_small {xs : List Int} (hg : Dgs 10000 xs) (x : Fin xs.length) : (grp xs x).toNat < 10000 ∧ ((grp xs x).toNat : Int) = grp xs x := by
  have := hg _ (List.getElem_mem x.isLt)
  show (xs[x.val]).toNat < 10000 ∧ ((xs[x.val]).toNat : Int) = xs[x.val]
  omega
theorem odigit_lt {xs : List Int} (hg : Dgs 10000 xs) {m : Nat} (hm : 0 < m) (pre : List (Fin xs.length)) (x : Fin xs.length) : ((grp xs x).toNat + 10000 * (ofold xs m pre).2) / m ≤ 9999 := by
  have h1 := ofold_lt xs hm pre
  have h2 := (grp_small hg x).1
  have : ((grp xs x).toNat + 10000 * (ofold xs m pre).2) / m < 10000 := by
    rw [Nat.div_lt_iff_lt_mul hm]
    have := Nat.mul_le_mul_left 10000 (show (ofold xs m pre).2 + 1 ≤ m from h1)
    omega
  omega
theorem ofold_dgs {xs : List Int} (hg : Dgs 10000 xs) {m : Nat} (hm : 0 < m) (pre : List (Fin xs.length)) : ∀ j, 0 ≤ (ofold xs m pre).1 j ∧ (ofold xs m pre).1 j < 10000 := by
  induction pre using snoc_induction with
  | h0 => intro j; show (0 : Int) ≤ 0 ∧ (0 : Int) < 10000; decide
  | h1 l a ih =>
    intro j
    rw [ofold_snoc]
    have := odigit_lt hg hm l a
    simp only [ostep]
    generalize ((grp xs a).toNat + 10000 * (ofold xs m l).2) / m = D at this ⊢
    split
    · omega
    · exact ih j

/-- The digits as a list. -/
def digitsOf (L : Nat) (f : Nat → Int) : List Int := (List.range L).map f
theorem digitsOf_length (L : Nat) (f : Nat → Int) : (digitsOf L f).length = L := by simp [digitsOf]
theorem digitsOf_get (L : Nat) (f : Nat → Int) (j : Nat) (h : j < L) : (digitsOf L f)[j]?.getD 0 = f j := by simp [digitsOf, h]
theorem digitsOf_dgs {L : Nat} {f : Nat → Int} (h : ∀ j, 0 ≤ f j ∧ f j < 10000) : Dgs 10000 (digitsOf L f) := by
  intro x hx
  obtain ⟨j, _, rfl⟩ := List.mem_map.1 hx
  exact h j

theorem ofold_keeps (xs : List Int) (m : Nat) (pre : List (Fin xs.length)) (x : Fin xs.length) (j : Nat) (hj : j ≠ x.val) : (ofold xs m (pre ++ [x])).1 j = (ofold xs m pre).1 j := by
  rw [ofold_snoc]; simp only [ostep]; rw [if_neg hj]

theorem ofold_val {xs : List Int} (hg : Dgs 10000 xs) {m : Nat} : ∀ (k : Nat) (pre : List (Fin xs.length)), k ≤ xs.length → pre.map Fin.val = dn xs.length k →
    val 10000 (xs.drop (xs.length - k)) = val 10000 ((digitsOf xs.length (ofold xs m pre).1).drop (xs.length - k)) * m + ((ofold xs m pre).2 : Int) := by
  intro k
  induction k with
  | zero =>
    intro pre _ h
    have : pre = [] := by simpa [dn] using h
    subst this
    rw [Nat.sub_zero, List.drop_length, ofold_nil, List.drop_of_length_le (by rw [digitsOf_length]; exact Nat.le_refl _)]
    simp [val_nil]
  | succ k ih =>
    intro pre hk h
    have hne : pre ≠ [] := by intro e; subst e; simp [dn] at h
    obtain ⟨ini, x, rfl⟩ : ∃ m x, pre = m ++ [x] := ⟨pre.dropLast, pre.getLast hne, (List.dropLast_concat_getLast hne).symm⟩
    rw [dn_succ, List.map_append] at h
    obtain ⟨h1, h2⟩ := List.append_inj' h rfl
    have hx : x.val = xs.length - 1 - k := by simpa using h2
    have hi := ih ini (by omega) h1
    have hd : (digitsOf xs.length (ofold xs m (ini ++ [x])).1).drop (xs.length - k) = (digitsOf xs.length (ofold xs m ini).1).drop (xs.length - k) := by
      refine List.ext_getElem (by simp [digitsOf]) (fun i h1 h2 => ?_)
      rw [List.getElem_drop, List.getElem_drop]
      simp only [digitsOf, List.getElem_map, List.getElem_range]
      exact ofold_keeps xs m ini x _ (by omega)
    rw [drop_cons (l := xs) (by omega), val_cons, drop_cons (l := digitsOf xs.length (ofold xs m (ini ++ [x])).1) (by rw [digitsOf_length]; omega), val_cons, digitsOf_get _ _ _ (by omega), show xs.length - (k + 1) = x.val by omega, grp_eq, show x.val + 1 = xs.length - k by omega, hd, hi]
    have hs : (ofold xs m (ini ++ [x])).1 x.val = ((((grp xs x).toNat + 10000 * (ofold xs m ini).2) / m : Nat) : Int) := by rw [ofold_snoc]; simp [ostep]
    have hr : (ofold xs m (ini ++ [x])).2 = ((grp xs x).toNat + 10000 * (ofold xs m ini).2) % m := by rw [ofold_snoc]; rfl
    rw [hs, hr]
    have h3 := (grp_small hg x).2
    have h4 := Nat.div_add_mod ((grp xs x).toNat + 10000 * (ofold xs m ini).2) m
    generalize ((grp xs x).toNat + 10000 * (ofold xs m ini).2) / m = D at h4 ⊢
    generalize ((grp xs x).toNat + 10000 * (ofold xs m ini).2) % m = E at h4 ⊢
    have h6 : ((m * D : Nat) : Int) = (m : Int) * (D : Int) := Int.natCast_mul m D
    have h5 : (m : Int) * (D : Int) + (E : Int) = ((grp xs x).toNat : Int) + 10000 * ((ofold xs m ini).2 : Int) := by omega
    generalize val 10000 ((digitsOf xs.length (ofold xs m ini).1).drop (xs.length - k)) = V
    generalize ((ofold xs m ini).2 : Int) = R at h5 ⊢
    rw [h3] at h5
    grind

end Go.Proofs.Tryz
