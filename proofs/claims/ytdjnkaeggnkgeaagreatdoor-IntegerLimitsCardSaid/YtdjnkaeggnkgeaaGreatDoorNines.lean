/- The laws' 'nines' and 'pick': what they return; numbers of nines. -/
import Derived.Test.YtdjnkaeggnkgeaaGreatDoorIs
namespace Go.Proofs.Dt
open Go.Lib (decDigits)

/-- A string of nines. -/
def nine (n : Nat) : ByteArray := ⟨(List.replicate n 57).toArray⟩
theorem nine_list (n : Nat) : (nine n).data.toList = List.replicate n 57 := rfl
theorem nine_next (n : Nat) : nine n ++ (⟨#[57]⟩ : ByteArray) = nine (n + 1) := by
  apply ByteArray.ext
  rw [ByteArray.data_append]
  unfold nine
  rw [List.replicate_succ']
  exact Array.ext' (by rw [Array.toList_append])
theorem nine_size (n : Nat) : (nine n).size = n := by show (List.replicate n (57 : UInt8)).toArray.size = n; simp

theorem dval_nines (n : Nat) : dval (List.replicate n 57) = 10 ^ n - 1 := by
  induction n with
  | zero => rfl
  | succ n ih =>
    rw [List.replicate_succ', dval_snoc, ih, Nat.pow_succ]
    have : 0 < 10 ^ n := Nat.pow_pos (by decide)
    show 10 * (10 ^ n - 1) + 9 = _
    omega
theorem nines_dig (n : Nat) : (List.replicate n (57 : UInt8)).all isDig = true := by
  rw [List.all_eq_true]; intro x hx; rw [List.mem_replicate] at hx; rw [hx.2]; decide

theorem nines_head (n : Nat) : (List.replicate n (57 : UInt8)).head? ≠ some 48 := by
  cases n with
  | zero => simp
  | succ n => rw [List.replicate_succ]; simp

theorem is_digs {l : List UInt8} (hne : l ≠ []) (hd : l.all isDig = true) (hh : l.head? ≠ some 48) : Is ⟨l.toArray⟩ (dval l : Int) := by
  unfold Is
  rw [str_nonneg (by omega), Int.toNat_natCast, decDigits_dval l hne hd hh]
theorem is_digs_neg {l : List UInt8} (hne : l ≠ []) (hd : l.all isDig = true) (hh : l.head? ≠ some 48) (h0 : 0 < dval l) : Is ⟨(45 :: l).toArray⟩ (-(dval l : Int)) := by
  unfold Is
  rw [str_neg (by omega), Int.natAbs_neg, Int.natAbs_natCast, decDigits_dval l hne hd hh]

theorem nine_is {n : Nat} (h : 1 ≤ n) : Is (nine n) ((10 ^ n : Nat) - 1 : Int) := by
  have h1 := is_digs (l := List.replicate n 57) (by simp; omega) (nines_dig n) (by cases n <;> simp [List.replicate_succ])
  rw [dval_nines] at h1
  have : 0 < 10 ^ n := Nat.pow_pos (by decide)
  rw [show ((10 ^ n - 1 : Nat) : Int) = (10 ^ n : Nat) - 1 by omega] at h1
  exact h1

theorem minus_nine : (⟨#[45]⟩ : ByteArray) ++ nine 200 = ⟨(45 :: List.replicate 200 57).toArray⟩ := by
  apply ByteArray.ext
  rw [ByteArray.data_append]
  unfold nine
  simp
theorem one_nine (n : Nat) : (⟨#[49]⟩ : ByteArray) ++ nine n = ⟨(49 :: List.replicate n 57).toArray⟩ := by
  apply ByteArray.ext
  rw [ByteArray.data_append]
  unfold nine
  simp

theorem minus_is : Is ((⟨#[45]⟩ : ByteArray) ++ nine 200) (-((limit : Int) - 1)) := by
  rw [minus_nine]
  have h := is_digs_neg (l := List.replicate 200 57) (by simp) (nines_dig 200) (nines_head 200) (by rw [dval_nines]; exact Nat.sub_pos_of_lt (Nat.one_lt_pow (by decide) (by decide)))
  rw [dval_nines] at h
  have : 0 < 10 ^ 200 := Nat.pow_pos (by decide)
  rw [show ((10 ^ 200 - 1 : Nat) : Int) = (limit : Int) - 1 by unfold limit; omega] at h
  exact h

theorem one_is (n : Nat) : Is ((⟨#[49]⟩ : ByteArray) ++ nine n) (2 * (10 ^ n : Nat) - 1 : Int) := by
  rw [one_nine]
  have h := is_digs (l := 49 :: List.replicate n 57) (by simp) (by rw [List.all_cons, nines_dig]; decide) (by simp)
  have e : dval (49 :: List.replicate n 57) = 2 * 10 ^ n - 1 := by
    have h1 := dval_append [49] (List.replicate n 57)
    rw [dval_nines, List.length_replicate] at h1
    have h2 : dval [49] = 1 := rfl
    have : 0 < 10 ^ n := Nat.pow_pos (by decide)
    rw [show (49 :: List.replicate n 57 : List UInt8) = [49] ++ List.replicate n 57 from rfl, h1, h2]
    omega
  rw [e] at h
  have : 0 < 10 ^ n := Nat.pow_pos (by decide)
  rw [show ((2 * 10 ^ n - 1 : Nat) : Int) = 2 * (10 ^ n : Nat) - 1 by omega] at h
  exact h

theorem tmod_nat {c : Int} (h : 0 ≤ c) : ∃ p : Nat, p < 200 ∧ c.tmod 200 = (p : Int) := by
  rw [Int.tmod_eq_emod_of_nonneg h]
  exact ⟨(c % 200).toNat, by omega, by omega⟩

theorem nine_long : valid (nine 201).data.toList = false := by
  by_cases h : valid (nine 201).data.toList = true
  · have h2 := (valid_parts h).2.1
    have e : body (nine 201).data.toList = List.replicate 201 57 := by
      unfold body
      rw [nine_list, if_neg (head_dig (nines_dig 201))]
    rw [e, List.length_replicate] at h2
    omega
  · simpa using h

end Go.Proofs.Dt
namespace Go.Proofs.Tryz
open Go.RowKit Go.Shelf Go.Proofs.Dt

set_option maxHeartbeats 1000000 in
theorem nines_any (n : Nat) (hn : n ≤ 200) (w : World) : Calls Tryz.prog 22 #[.int .i64 (n : Int)] w fun e w' => e = .returned (.string (nine n)) ∧ w = w' := by
  go_enter Tryz.func22, Tryz.ntmps22
  go_wp2_with fail
  go_loop [3, 4] (fun v i => ∃ k : Nat, k ≤ n ∧ v = .string (nine k) ∧ i = .int .i64 (k : Int)) (fun v i => n - (intOf2 i).toNat)
  case atStart => exact ⟨0, by omega, rfl, rfl⟩
  case round =>
    obtain ⟨k, hk, rfl, rfl⟩ := hrel
    by_cases h : k < n
    · have hsz := nine_size k
      go_wp2_with fail
      go_round
      case rel => exact ⟨k + 1, by omega, by rw [nine_next], by go_num⟩
      case measure => simp [intOf2]; omega
    · obtain rfl : k = n := by omega
      go_wp2
      go_ret
      exact ⟨rfl, rfl⟩

theorem pick_any (c : Int) (h0 : -9223372036854775808 ≤ c) (h1 : c ≤ 9223372036854775807) (w : World) : Calls Tryz.prog 23 #[.int .i64 c, .int .i64 200] w fun e w' => (∃ p : Nat, p < 200 ∧ e = .returned (.int .i64 (p : Int))) ∧ w = w' := by
  by_cases h : c < 0
  · go_enter Tryz.func23, Tryz.ntmps23
    go_wp2
    go_ret
    obtain ⟨p, hp, e⟩ := tmod_nat (c := -(c + 1)) (by omega)
    rw [Int.neg_tmod] at e
    exact ⟨⟨p, hp, by rw [← e]; rfl⟩, rfl⟩
  · go_enter Tryz.func23, Tryz.ntmps23
    go_wp2
    go_ret
    obtain ⟨p, hp, e⟩ : ∃ p : Nat, p < 200 ∧ c % 200 = (p : Int) := ⟨(c % 200).toNat, by omega, by omega⟩
    exact ⟨⟨p, hp, by rw [← e]; rfl⟩, rfl⟩

end Go.Proofs.Tryz
