/- Strings that are the numbers: the operations on them. */ -/
import Derived.Test.YtdjnkaeggnkgeaaGreatDoorSane
namespace Go.Proofs.Dt

/-- The string x is the integer X. -/
def Is (x : ByteArray) (X : Int) : Prop := x = ⟨(str X).toArray⟩
theorem Is.list {x : ByteArray} {X : Int} (h : Is x X) : x.data.toList = str X := by rw [h]
theorem Is.exists (X : Int) : ∃ x, Is x X := ⟨_, rfl⟩
theorem Is.lit {x : ByteArray} {X : Int} (hv : valid x.data.toList = true) (h : num x.data.toList = X) : Is x X := by
  have e := str_num hv
  rw [h] at e
  unfold Is
  rw [e]
theorem Is.inj {x y : ByteArray} {X Y : Int} (h : Is x X) (k : Is y Y) : x = y ↔ X = Y := by
  constructor
  · intro e; exact str_inj (by rw [← h.list, ← k.list, e])
  · intro e; rw [h, k, e]
theorem Is.zero : Is ⟨#[48]⟩ 0 := Is.lit (by decide) (by decide)
theorem Is.one : Is ⟨#[49]⟩ 1 := Is.lit (by decide) (by decide)

section
variable {x y r s : ByteArray} {X Y R S : Int}
theorem add_is (hx : Is x X) (hy : Is y Y) (hr : Is r R) (bx : X.natAbs < limit) (by' : Y.natAbs < limit) (br : R.natAbs < limit) (h : X + Y = R) : addS x.data.toList y.data.toList = (r.data.toList, 0) := by
  rw [hx.list, hy.list, hr.list, ← h]; exact addS_str bx by' (by rw [h]; exact br)
theorem sub_is (hx : Is x X) (hy : Is y Y) (hr : Is r R) (bx : X.natAbs < limit) (by' : Y.natAbs < limit) (br : R.natAbs < limit) (h : X - Y = R) : subS x.data.toList y.data.toList = (r.data.toList, 0) := by
  rw [hx.list, hy.list, hr.list, ← h]; exact subS_str bx by' (by rw [h]; exact br)
theorem mul_is (hx : Is x X) (hy : Is y Y) (hr : Is r R) (bx : X.natAbs < limit) (by' : Y.natAbs < limit) (br : R.natAbs < limit) (h : X * Y = R) : mulS x.data.toList y.data.toList = (r.data.toList, 0) := by
  rw [hx.list, hy.list, hr.list, ← h]; exact mulS_str bx by' (by rw [h]; exact br)
theorem gcd_is (hx : Is x X) (hy : Is y Y) (hr : Is r R) (bx : X.natAbs < limit) (by' : Y.natAbs < limit) (h : (Int.gcd X Y : Int) = R) : gcdS x.data.toList y.data.toList = (r.data.toList, 0) := by
  rw [hx.list, hy.list, hr.list, ← h]; exact gcdS_str bx by' (gcd_le_limit bx by')
theorem div_is (hx : Is x X) (hy : Is y Y) (hr : Is r R) (hs : Is s S) (bx : X.natAbs < limit) (by' : Y.natAbs < limit) (h0 : Y ≠ 0) (h : X / Y = R) (k : X % Y = S) : divS x.data.toList y.data.toList = (r.data.toList, s.data.toList, 0) := by
  rw [hx.list, hy.list, hr.list, hs.list, ← h, ← k]; exact divS_str bx by' h0
theorem root_is (hx : Is x X) (hr : Is r R) (bx : X.natAbs < limit) (h0 : 0 ≤ X) (h : (rt X.toNat : Int) = R) : rootS x.data.toList = (r.data.toList, 0) := by
  rw [hx.list, hr.list, ← h]; exact root_str bx h0
theorem cmp_is (hx : Is x X) (hy : Is y Y) (bx : X.natAbs < limit) (by' : Y.natAbs < limit) : cmpS x.data.toList y.data.toList = sgn (X - Y) := by
  rw [hx.list, hy.list]; exact cmpS_str bx by'
theorem valid_is (hx : Is x X) (bx : X.natAbs < limit) : valid x.data.toList = true := by
  rw [hx.list]; exact (valid_str X).2 bx
end
theorem small_limit {X : Int} (h : X.natAbs < 10 ^ 9) : X.natAbs < limit := Nat.lt_of_lt_of_le h (Nat.pow_le_pow_right (by decide) (by decide))

end Go.Proofs.Dt
