/- Powers of ten as strings: plain. -/
import Derived.Test.YtjjmabokoendbaaGreatDoorIZ
import Derived.Lib.Repeat
namespace Go.Proofs.Dt
/-- 1 with zeros behind it. -/
def ten (k : Nat) : ByteArray := ⟨(49 :: List.replicate k 48).toArray⟩
theorem zeros_repeat (c : Nat) : Go.Lib.repeatL [48] c = List.replicate c (48 : UInt8) := by
  induction c with
  | zero => rfl
  | succ c ih => rw [Go.Lib.repeatL, ih]; rfl
theorem dval_noughts (n : Nat) : dval (List.replicate n 48) = 0 := by
  induction n with
  | zero => rfl
  | succ n ih => rw [List.replicate_succ', dval_snoc, ih]; rfl
theorem noughts_dig (n : Nat) : (List.replicate n (48 : UInt8)).all isDig = true := by
  rw [List.all_eq_true]; intro x hx; rw [List.mem_replicate] at hx; rw [hx.2]; decide
theorem ten_is (k : Nat) : Is (ten k) ((10 ^ k : Nat) : Int) := by
  have e : dval (49 :: List.replicate k 48) = 10 ^ k := by
    have h1 := dval_append [49] (List.replicate k 48)
    rw [dval_noughts, List.length_replicate] at h1
    have h2 : dval [49] = 1 := rfl
    rw [show (49 :: List.replicate k 48 : List UInt8) = [49] ++ List.replicate k 48 from rfl, h1, h2]
    omega
  unfold Is ten
  rw [str_nonneg (by omega), Int.toNat_natCast, ← e, decDigits_dval _ (by simp) (by rw [List.all_cons, noughts_dig]; decide) (by simp)]
theorem one_zeros (k : Nat) : (⟨#[49]⟩ : ByteArray) ++ (⟨(List.replicate k 48).toArray⟩ : ByteArray) = ten k := by
  apply ByteArray.ext
  rw [ByteArray.data_append]
  unfold ten
  simp
theorem ten_next (k : Nat) : ten k ++ (⟨#[48]⟩ : ByteArray) = ten (k + 1) := by
  apply ByteArray.ext
  rw [ByteArray.data_append]
  unfold ten
  rw [List.replicate_succ']
  exact Array.ext' (by simp)
theorem ten_zero : ten 0 = ⟨#[49]⟩ := rfl
theorem ten_lim {k : Nat} (h : k < 200) : (((10 ^ k : Nat) : Int)).natAbs < limit := by
  rw [Int.natAbs_natCast]; unfold limit; exact Nat.pow_lt_pow_right (by decide) h
theorem ten_pos (k : Nat) : (0 : Int) < ((10 ^ k : Nat) : Int) := by have := Nat.pow_pos (n := k) (show 0 < 10 by decide); omega
end Go.Proofs.Dt
