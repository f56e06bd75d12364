/- The operations on strings whose results are known: what they return, and what they leave in memory, counted from one first world.
Strings that are the numbers: the operations on them. */
Tests on whether two strings are equal, in the walk's own form.
FromInt and ToInt where the results are known. -/
import Derived.Test.YtjjmabokoendbaaGreatDoorIG
import Derived.MapKept
import Derived.Laws.StructEq
namespace Go.Proofs.Dt

theorem add_lit {a b : List UInt8} (c : List UInt8) (ha : valid a = true) (hb : valid b = true) (hc : valid c = true) (h : num a + num b = num c) : addS a b = (c, 0) := by
  unfold addS bin; rw [ha, hb]; show res (num a + num b) = _; rw [h, res_ok (num_lt hc), str_num hc]
theorem sub_lit {a b : List UInt8} (c : List UInt8) (ha : valid a = true) (hb : valid b = true) (hc : valid c = true) (h : num a - num b = num c) : subS a b = (c, 0) := by
  unfold subS bin; rw [ha, hb]; show res (num a - num b) = _; rw [h, res_ok (num_lt hc), str_num hc]
theorem mul_lit {a b : List UInt8} (c : List UInt8) (ha : valid a = true) (hb : valid b = true) (hc : valid c = true) (h : num a * num b = num c) : mulS a b = (c, 0) := by
  unfold mulS bin; rw [ha, hb]; show res (num a * num b) = _; rw [h, res_ok (num_lt hc), str_num hc]
theorem gcd_lit {a b : List UInt8} (c : List UInt8) (ha : valid a = true) (hb : valid b = true) (hc : valid c = true) (h : (Int.gcd (num a) (num b) : Int) = num c) : gcdS a b = (c, 0) := by
  unfold gcdS bin; rw [ha, hb]; show res (Int.gcd (num a) (num b) : Int) = _; rw [h, res_ok (num_lt hc), str_num hc]
theorem div_lit {a b : List UInt8} (c d : List UInt8) (ha : valid a = true) (hb : valid b = true) (hc : valid c = true) (hd : valid d = true) (h0 : num b ≠ 0) (h : num a / num b = num c) (k : num a % num b = num d) : divS a b = (c, d, 0) := by
  unfold divS; rw [ha, hb, decide_eq_true h0, h, k, if_pos (show (true && true && true) = true from rfl), if_pos (num_lt hc), str_num hc, str_num hd]
theorem add_no {a b : List UInt8} (h : valid a = false) : addS a b = ([], 30) := by
  unfold addS bin; rw [h]; rfl
theorem cmp_lit {a b : List UInt8} (ha : valid a = true) (hb : valid b = true) : cmpS a b = sgn (num a - num b) := by
  unfold cmpS; rw [ha, hb]; rfl

theorem addS_no {x y : Int} (hx : x.natAbs < limit) (hy : y.natAbs < limit) (h : ¬ (x + y).natAbs < limit) : addS (str x) (str y) = ([], 30) := by
  unfold addS; rw [bin_str _ hx hy, res_no h]
theorem subS_no {x y : Int} (hx : x.natAbs < limit) (hy : y.natAbs < limit) (h : ¬ (x - y).natAbs < limit) : subS (str x) (str y) = ([], 30) := by
  unfold subS; rw [bin_str _ hx hy, res_no h]
theorem mulS_no {x y : Int} (hx : x.natAbs < limit) (hy : y.natAbs < limit) (h : ¬ (x * y).natAbs < limit) : mulS (str x) (str y) = ([], 30) := by
  unfold mulS; rw [bin_str _ hx hy, res_no h]

end Go.Proofs.Dt
namespace Go.Proofs.Tryz
open Go.RowKit Go.Shelf Go.Proofs.Dt

/-- Nothing that lay in the first world has changed. -/
abbrev Since (w0 w : World) : Prop := Hid (Below w0.heap.size w0 w)
theorem Since.refl (w : World) : Since w w := Below.refl _ _
theorem Since.next {w0 w w' : World} (h : Since w0 w) (k : Below w.heap.size w w') : Since w0 w' := h.out.trans (k.mono h.out.size)
theorem Since.tab {w0 w : World} (ht : Hid (Tab w0)) (h : Since w0 w) : Tab w := ht.out.below h.out

section
variable {w0 w : World}

theorem add_to {x y : ByteArray} (r : ByteArray) (c : Int) (ht : Hid (Tab w0)) (hB : Since w0 w) (h : addS x.data.toList y.data.toList = (r.data.toList, c)) :
    Calls Tryz.prog 51 #[.string x, .string y] w fun e w' => e = .returned (.tuple #[.string r, .int .i64 c]) ∧ Since w0 w' := by
  refine (add_any x y w (hB.tab ht)).mono ?_
  rintro e w' ⟨rfl, hb⟩
  exact ⟨by rw [h]; rfl, hB.next hb⟩
theorem sub_to {x y : ByteArray} (r : ByteArray) (c : Int) (ht : Hid (Tab w0)) (hB : Since w0 w) (h : subS x.data.toList y.data.toList = (r.data.toList, c)) :
    Calls Tryz.prog 50 #[.string x, .string y] w fun e w' => e = .returned (.tuple #[.string r, .int .i64 c]) ∧ Since w0 w' := by
  refine (sub_any x y w (hB.tab ht)).mono ?_
  rintro e w' ⟨rfl, hb⟩
  exact ⟨by rw [h]; rfl, hB.next hb⟩
theorem mul_to {x y : ByteArray} (r : ByteArray) (c : Int) (ht : Hid (Tab w0)) (hB : Since w0 w) (h : mulS x.data.toList y.data.toList = (r.data.toList, c)) :
    Calls Tryz.prog 83 #[.string x, .string y] w fun e w' => e = .returned (.tuple #[.string r, .int .i64 c]) ∧ Since w0 w' := by
  refine (mul_any x y w (hB.tab ht)).mono ?_
  rintro e w' ⟨rfl, hb⟩
  exact ⟨by rw [h]; rfl, hB.next hb⟩
theorem gcd_to {x y : ByteArray} (r : ByteArray) (c : Int) (ht : Hid (Tab w0)) (hB : Since w0 w) (h : gcdS x.data.toList y.data.toList = (r.data.toList, c)) :
    Calls Tryz.prog 59 #[.string x, .string y] w fun e w' => e = .returned (.tuple #[.string r, .int .i64 c]) ∧ Since w0 w' := by
  refine (gcd_any x y w (hB.tab ht)).mono ?_
  rintro e w' ⟨rfl, hb⟩
  exact ⟨by rw [h]; rfl, hB.next hb⟩
theorem div_to {x y : ByteArray} (r s : ByteArray) (c : Int) (ht : Hid (Tab w0)) (hB : Since w0 w) (h : divS x.data.toList y.data.toList = (r.data.toList, s.data.toList, c)) :
    Calls Tryz.prog 47 #[.string x, .string y] w fun e w' => e = .returned (.tuple #[.string r, .string s, .int .i64 c]) ∧ Since w0 w' := by
  refine (div_any x y w (hB.tab ht)).mono ?_
  rintro e w' ⟨rfl, hb⟩
  exact ⟨by rw [h], hB.next hb⟩
theorem cmp_to {x y : ByteArray} (c : Int) (hB : Since w0 w) (h : cmpS x.data.toList y.data.toList = c) :
    Calls Tryz.prog 48 #[.string x, .string y] w fun e w' => e = .returned (.int .i64 c) ∧ Since w0 w' := by
  refine (compareS_any x y w).mono ?_
  rintro e w' ⟨rfl, hb⟩
  exact ⟨by rw [h], hB.next hb⟩
theorem valid_to {x : ByteArray} (c : Bool) (hB : Since w0 w) (h : valid x.data.toList = c) :
    Calls Tryz.prog 58 #[.string x] w fun e w' => e = .returned (.bool c) ∧ Since w0 w' := by
  refine (valid_any x w).mono ?_
  rintro e w' ⟨rfl, hb⟩
  exact ⟨by rw [h], hB.next hb⟩

end

end Go.Proofs.Tryz

namespace Go.Proofs.Dt

/-- The string x is the integer X. -/
def Is (x : ByteArray) (X : Int) : Prop := x = ⟨(str X).toArray⟩
theorem Is.list {x : ByteArray} {X : Int} (h : Is x X) : x.data.toList = str X := by rw [h]
theorem Is.of_list {x : ByteArray} {X : Int} (h : x.data.toList = str X) : Is x X := by unfold Is; rw [← h]
theorem Is.exists (X : Int) : ∃ x, Is x X := ⟨_, rfl⟩
theorem Is.lit {x : ByteArray} {X : Int} (hv : valid x.data.toList = true) (h : num x.data.toList = X) : Is x X := by
  have e := str_num hv
  rw [h] at e
  unfold Is
  rw [e]
theorem Is.inj {x y : ByteArray} {X Y : Int} (h : Is x X) (k : Is y Y) : x = y ↔ X = Y := by
  constructor
  · intro e; exact str_inj (by rw [← h.list, ← k.list, e])
  · intro e; rw [h, k, e]
theorem Is.zero : Is ⟨#[48]⟩ 0 := Is.lit (by decide) (by decide)
theorem Is.one : Is ⟨#[49]⟩ 1 := Is.lit (by decide) (by decide)

section
variable {x y r s : ByteArray} {X Y R S : Int}
theorem add_is (hx : Is x X) (hy : Is y Y) (hr : Is r R) (bx : X.natAbs < limit) (by' : Y.natAbs < limit) (br : R.natAbs < limit) (h : X + Y = R) : addS x.data.toList y.data.toList = (r.data.toList, 0) := by
  rw [hx.list, hy.list, hr.list, ← h]; exact addS_str bx by' (by rw [h]; exact br)
theorem sub_is (hx : Is x X) (hy : Is y Y) (hr : Is r R) (bx : X.natAbs < limit) (by' : Y.natAbs < limit) (br : R.natAbs < limit) (h : X - Y = R) : subS x.data.toList y.data.toList = (r.data.toList, 0) := by
  rw [hx.list, hy.list, hr.list, ← h]; exact subS_str bx by' (by rw [h]; exact br)
theorem mul_is (hx : Is x X) (hy : Is y Y) (hr : Is r R) (bx : X.natAbs < limit) (by' : Y.natAbs < limit) (br : R.natAbs < limit) (h : X * Y = R) : mulS x.data.toList y.data.toList = (r.data.toList, 0) := by
  rw [hx.list, hy.list, hr.list, ← h]; exact mulS_str bx by' (by rw [h]; exact br)
theorem gcd_is (hx : Is x X) (hy : Is y Y) (hr : Is r R) (bx : X.natAbs < limit) (by' : Y.natAbs < limit) (h : (Int.gcd X Y : Int) = R) : gcdS x.data.toList y.data.toList = (r.data.toList, 0) := by
  rw [hx.list, hy.list, hr.list, ← h]; exact gcdS_str bx by' (gcd_le_limit bx by')
theorem div_is (hx : Is x X) (hy : Is y Y) (hr : Is r R) (hs : Is s S) (bx : X.natAbs < limit) (by' : Y.natAbs < limit) (h0 : Y ≠ 0) (h : X / Y = R) (k : X % Y = S) : divS x.data.toList y.data.toList = (r.data.toList, s.data.toList, 0) := by
  rw [hx.list, hy.list, hr.list, hs.list, ← h, ← k]; exact divS_str bx by' h0
theorem cmp_is (hx : Is x X) (hy : Is y Y) (bx : X.natAbs < limit) (by' : Y.natAbs < limit) : cmpS x.data.toList y.data.toList = sgn (X - Y) := by
  rw [hx.list, hy.list]; exact cmpS_str bx by'
theorem valid_is (hx : Is x X) (bx : X.natAbs < limit) : valid x.data.toList = true := by
  rw [hx.list]; exact (valid_str X).2 bx
end
theorem small_limit {X : Int} (h : X.natAbs < 10 ^ 9) : X.natAbs < limit := Nat.lt_of_lt_of_le h (Nat.pow_le_pow_right (by decide) (by decide))

end Go.Proofs.Dt

namespace Go.Proofs.Dt

theorem toList_ne {x y : ByteArray} (h : x ≠ y) : (x.toList == y.toList) = false := by
  rw [← beq_toListBytes]
  cases hb : (x == y) with
  | false => rfl
  | true => exact absurd ((Go.MapKept.bytes_beq x y).1 hb) h
theorem toList_ne_zero {x : ByteArray} (h : x ≠ ⟨#[48]⟩) : (x.toList == [48]) = false := by
  have h2 := toList_ne h
  rwa [show (⟨#[48]⟩ : ByteArray).toList = [48] from Go.ByteArray.toList_eq _] at h2

end Go.Proofs.Dt

namespace Go.Proofs.Dt
theorem str_len {x : Int} (h : x.natAbs < limit) : (str x).length ≤ 201 := by
  have h1 := (valid_parts ((valid_str x).2 h)).2.1
  rw [body_str] at h1
  rcases Int.lt_or_le x 0 with e | e
  · rw [str_neg e, List.length_cons]; omega
  · rw [str_nonneg e, show x.toNat = x.natAbs by omega]; omega
theorem Is.size {x : ByteArray} {X : Int} (h : Is x X) (hl : X.natAbs < limit) : x.size ≤ 1000 := by
  have e : x.size = (str X).length := by rw [← h.list]; rfl
  have := str_len hl
  omega
theorem toIntS_str {x : Int} (h : x.natAbs < limit) (h0 : -9223372036854775808 ≤ x) (h1 : x ≤ 9223372036854775807) : toIntS (str x) = (x, 0) := by
  unfold toIntS
  rw [(valid_str x).2 h, num_str, decide_eq_true h0, decide_eq_true h1]; rfl
theorem i64_limit {x : Int} (h0 : -9223372036854775808 ≤ x) (h1 : x ≤ 9223372036854775807) : x.natAbs < limit :=
  Nat.lt_of_lt_of_le (show x.natAbs < 10 ^ 19 by omega) (Nat.pow_le_pow_right (by decide) (by decide))
end Go.Proofs.Dt
namespace Go.Proofs.Tryz
open Go.RowKit Go.Shelf Go.Proofs.Dt

theorem from_to {w0 w : World} {n : Int} (r : ByteArray) (ht : Hid (Tab w0)) (hB : Since w0 w) (hr : Hid (Is r n ∧ -9223372036854775808 ≤ n ∧ n ≤ 9223372036854775807)) :
    Calls Tryz.prog 73 #[.int .i64 n] w fun e w' => e = .returned (.string r) ∧ Since w0 w' := by
  refine (fromInt_any n hr.out.2.1 hr.out.2.2 w (hB.tab ht)).mono ?_
  rintro e w' ⟨rfl, hb⟩
  exact ⟨by rw [show r = _ from hr.out.1], hB.next hb⟩

end Go.Proofs.Tryz
