/- Plain: how the digits of a number are put together from its groups. -/
import Derived.Test.YtdjnkaeggnkgeaaGreatDoorTxt
import Derived.Test.YtdjnkaeggnkgeaaGreatDoorBack
import Derived.Test.YtdjnkaeggnkgeaaGreatDoorSpec
namespace Go.Proofs.Tryz
open Go.RowKit Go.Proofs.Dt
open Go.Lib (decDigits)

/-- What one round of 'text' writes. -/
def piece (xs : List Int) (x : Fin xs.length) : List UInt8 := if x.val < xs.length - 1 then pad4 (grp xs x).toNat else decDigits (grp xs x).toNat

/-- What the rounds so far have written. -/
def pieces (xs : List Int) (pre : List (Fin xs.length)) : List UInt8 := pre.flatMap (piece xs)

theorem pieces_nil (xs : List Int) : pieces xs [] = [] := rfl
theorem pieces_snoc (xs : List Int) (pre : List (Fin xs.length)) (x : Fin xs.length) : pieces xs (pre ++ [x]) = pieces xs pre ++ piece xs x := by simp [pieces]

theorem pieces_val {xs : List Int} (hg : Dgs 10000 xs) (hn : Nrm xs) : ∀ (k : Nat) (pre : List (Fin xs.length)), 1 ≤ k → k ≤ xs.length → pre.map Fin.val = dn xs.length k →
    ∃ N : Nat, N ≠ 0 ∧ val 10000 (xs.drop (xs.length - k)) = (N : Int) ∧ pieces xs pre = decDigits N := by
  intro k
  induction k with
  | zero => intro pre h; omega
  | succ k ih =>
    intro pre _ hk h
    have hne : pre ≠ [] := by intro e; subst e; simp [dn] at h
    obtain ⟨ini, x, rfl⟩ : ∃ m x, pre = m ++ [x] := ⟨pre.dropLast, pre.getLast hne, (List.dropLast_concat_getLast hne).symm⟩
    rw [dn_succ, List.map_append] at h
    obtain ⟨h1, h2⟩ := List.append_inj' h rfl
    have hx : x.val = xs.length - 1 - k := by simpa using h2
    have hgx : 0 ≤ grp xs x ∧ grp xs x < 10000 := hg _ (List.getElem_mem x.isLt)
    have hgn : ((grp xs x).toNat : Int) = grp xs x := by omega
    rw [drop_cons (l := xs) (by omega), val_cons, show xs.length - (k + 1) = x.val by omega, grp_eq, show x.val + 1 = xs.length - k by omega, pieces_snoc]
    by_cases hk0 : k = 0
    · subst hk0
      have : ini = [] := by simpa [dn] using h1
      subst this
      rw [Nat.sub_zero, List.drop_length, val_nil, pieces_nil, List.nil_append]
      have hg0 : grp xs x ≠ 0 := by
        intro e
        apply hn
        have hlt := x.isLt
        rw [List.getLast?_eq_getElem?, show xs.length - 1 = x.val by omega, List.getElem?_eq_getElem hlt]
        exact congrArg some e
      refine ⟨(grp xs x).toNat, by omega, by omega, ?_⟩
      unfold piece
      rw [if_neg (by omega)]
    · obtain ⟨N, hN0, hNv, hNp⟩ := ih ini (by omega) (by omega) h1
      refine ⟨N * 10000 + (grp xs x).toNat, by omega, by rw [hNv]; omega, ?_⟩
      rw [hNp, decDigits_pad4 hN0 (by omega)]
      unfold piece
      rw [if_pos (by omega)]

theorem pieces_all {xs : List Int} {n : Nat} (h : RepN 10000 xs n) (h0 : n ≠ 0) {pre : List (Fin xs.length)} (hp : pre.map Fin.val = dn xs.length xs.length) : pieces xs pre = decDigits n := by
  have hl : xs ≠ [] := fun e => h0 ((h.pos (by decide)).1 e)
  obtain ⟨N, _, hv, hd⟩ := pieces_val h.good h.norm xs.length pre (List.length_pos_iff.2 hl) (Nat.le_refl _) hp
  rw [Nat.sub_self, List.drop_zero, h.val] at hv
  rw [hd]
  congr 1
  omega

theorem piece_length {xs : List Int} (hg : Dgs 10000 xs) (x : Fin xs.length) : (piece xs x).length ≤ 4 := by
  have hgx : 0 ≤ grp xs x ∧ grp xs x < 10000 := hg _ (List.getElem_mem x.isLt)
  unfold piece
  split
  · rw [pad4_length (by omega)]; exact Nat.le_refl _
  · exact (decDigits_length_le _ 4 (by decide)).2 (by show (grp xs x).toNat < 10000; omega)
theorem pieces_length {xs : List Int} (hg : Dgs 10000 xs) (pre : List (Fin xs.length)) : (pieces xs pre).length ≤ 4 * pre.length := by
  induction pre with
  | nil => simp [pieces]
  | cons x r ih =>
    have h := piece_length hg x
    unfold pieces at ih ⊢
    rw [List.flatMap_cons, List.length_append, List.length_cons]
    omega

/-- What 'text' returns. -/
def textS (neg : Bool) (n : Nat) : List UInt8 × Int :=
  if n = 0 then ([48], 0) else if 200 < (decDigits n).length then ([], 30) else (if neg then 45 :: decDigits n else decDigits n, 0)

theorem textS_res (neg : Bool) (n : Nat) : textS neg n = res (if neg then -(n : Int) else n) := by
  unfold textS res
  by_cases h0 : n = 0
  · subst h0
    have hl : (0 : Nat) < limit := by unfold limit; exact Nat.pow_pos (by decide)
    rw [if_pos rfl]
    have e0 : str 0 = [48] := by rw [str_nonneg (by decide), show (0 : Int).toNat = 0 from rfl, decDigits_lt (by decide)]; rfl
    cases neg <;> simp [e0, hl]
  · rw [if_neg h0]
    have hlen := decDigits_length_le n 200 (by decide)
    have hna : (if neg = true then -(n : Int) else (n : Int)).natAbs = n := by cases neg <;> simp
    rw [hna]
    by_cases h1 : n < limit
    · rw [if_neg (by have := hlen.2 h1; omega), if_pos h1]
      cases neg with
      | true => rw [if_pos rfl, if_pos rfl, str_neg (by omega)]; simp
      | false => simp only [Bool.false_eq_true, if_false]; rw [str_nonneg (by omega)]; simp
    · rw [if_pos (by rcases Nat.lt_or_ge 200 (decDigits n).length with h | h; · exact h
                     · exact absurd (hlen.1 h) h1), if_neg h1]

end Go.Proofs.Tryz
