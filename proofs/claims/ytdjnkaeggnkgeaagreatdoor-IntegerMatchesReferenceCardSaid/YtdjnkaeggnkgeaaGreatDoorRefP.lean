/- The reference's lists of digits as integers: plain, without a program. -/
import Derived.Test.YtdjnkaeggnkgeaaGreatDoorTxt
import Derived.Test.YtdjnkaeggnkgeaaGreatDoorNat1
namespace Go.Proofs.Dt
open Go.Lib (decDigits)

/-- What the reference's 'text' returns. -/
def rtextS (neg : Bool) (xs : List Int) : List UInt8 × Bool := if xs = [] then ([48], true) else ((if neg then [45] else []) ++ digs xs, decide (xs.length ≤ 200))

theorem rtextS_nil (neg : Bool) : rtextS neg [] = ([48], true) := rfl
theorem rtextS_ne (neg : Bool) {xs : List Int} (h : xs ≠ []) : rtextS neg xs = ((if neg then [45] else []) ++ digs xs, decide (xs.length ≤ 200)) := by
  unfold rtextS; rw [if_neg h]

theorem str_zero : str 0 = [48] := by rw [str_nonneg (by decide)]; show decDigits 0 = _; rw [decDigits_lt (by decide)]; rfl

theorem rtext_str (neg : Bool) {xs : List Int} {n : Nat} (h : RepN 10 xs n) : (rtextS neg xs).1 = str (if neg then -(n : Int) else n) := by
  by_cases h0 : xs = []
  · have hn := (h.pos (by decide)).1 h0
    subst hn; subst h0
    rw [rtextS_nil, show (if neg = true then -((0 : Nat) : Int) else ((0 : Nat) : Int)) = 0 by cases neg <;> rfl, str_zero]
  · have hn : n ≠ 0 := fun e => h0 ((h.pos (by decide)).2 e)
    rw [rtextS_ne _ h0, digs_rep h hn]
    cases neg with
    | false => rw [if_neg (by decide), if_neg (by decide), str_nonneg (by omega)]; rfl
    | true => rw [if_pos rfl, if_pos rfl, str_neg (by omega), Int.natAbs_neg, Int.natAbs_natCast]; rfl

theorem rep_bd {xs : List Int} {n k : Nat} (h : RepN 10 xs n) (hl : xs.length ≤ k) : n < 10 ^ k := by
  have h1 := (val_bounds (by decide) h.good).2
  rw [h.val] at h1
  have h2 : n < 10 ^ xs.length := Int.ofNat_lt.1 (by rw [Int.natCast_pow]; exact h1)
  exact Nat.lt_of_lt_of_le h2 (Nat.pow_le_pow_right (by decide) hl)

/-- A list of digits of which zeros are left out at the end. -/
theorem rep_cut {xs : List Int} {k : Nat} (hd : Dgs 10 xs) (hk : k ≤ xs.length) (hz : ∀ j, k ≤ j → j < xs.length → xs[j]?.getD 0 = 0) (hl : k = 0 ∨ xs[k - 1]?.getD 0 ≠ 0) :
    ∃ n, RepN 10 (xs.take k) n ∧ val 10 xs = (n : Int) := by
  have hv := val_bounds (B := 10) (by decide) hd
  obtain ⟨n, hn⟩ := Int.eq_ofNat_of_zero_le hv.1
  exact ⟨n, rep_trim hd hn hk hz hl, hn⟩

theorem digs_drop {xs : List Int} {f : Nat} (h0 : 0 < f) (hf : f ≤ xs.length) : digs (xs.drop (f - 1)) = digs (xs.drop f) ++ [UInt8.ofNat (48 + (xs[f - 1]?.getD 0).toNat)] := by
  have h1 : f - 1 < xs.length := by omega
  rw [List.drop_eq_getElem_cons h1, digs_cons, show f - 1 + 1 = f by omega, List.getElem?_eq_getElem h1]; rfl

end Go.Proofs.Dt
