/- What the functions of the chapter return, as functions on strings of bytes: plain, without a program. -/
import Derived.Test.YtdjnkaeggnkgeaaGreatDoorDec
import Derived.Test.YtdjnkaeggnkgeaaGreatDoorNat1
namespace Go.Proofs.Dt

/-- Two valid integers give a number; others give nothing. -/
def bin (f : Int → Int → Int) (a b : List UInt8) : List UInt8 × Int := if valid a && valid b then res (f (num a) (num b)) else ([], 30)
def addS : List UInt8 → List UInt8 → List UInt8 × Int := bin (· + ·)
def subS : List UInt8 → List UInt8 → List UInt8 × Int := bin (· - ·)
def mulS : List UInt8 → List UInt8 → List UInt8 × Int := bin (· * ·)
def gcdS : List UInt8 → List UInt8 → List UInt8 × Int := bin (fun x y => (Int.gcd x y : Int))
def divS (a b : List UInt8) : List UInt8 × List UInt8 × Int :=
  if valid a && valid b && decide (num b ≠ 0) then (if (num a / num b).natAbs < limit then (str (num a / num b), str (num a % num b), 0) else ([], [], 30)) else ([], [], 30)
/-- The sign of a difference. -/
def sgn (x : Int) : Int := if x < 0 then -1 else if 0 < x then 1 else 0
def cmpS (a b : List UInt8) : Int := if valid a && valid b then sgn (num a - num b) else 0
def toIntS (s : List UInt8) : Int × Int := if valid s && decide (-9223372036854775808 ≤ num s) && decide (num s ≤ 9223372036854775807) then (num s, 0) else (0, 30)

theorem bin_str (f : Int → Int → Int) {x y : Int} (hx : x.natAbs < limit) (hy : y.natAbs < limit) : bin f (str x) (str y) = res (f x y) := by
  unfold bin; rw [(valid_str x).2 hx, (valid_str y).2 hy, num_str, num_str]; rfl
theorem res_ok {n : Int} (h : n.natAbs < limit) : res n = (str n, 0) := by unfold res; rw [if_pos h]
theorem res_no {n : Int} (h : ¬ n.natAbs < limit) : res n = ([], 30) := by unfold res; rw [if_neg h]
theorem addS_str {x y : Int} (hx : x.natAbs < limit) (hy : y.natAbs < limit) (h : (x + y).natAbs < limit) : addS (str x) (str y) = (str (x + y), 0) := by
  unfold addS; rw [bin_str _ hx hy, res_ok h]
theorem subS_str {x y : Int} (hx : x.natAbs < limit) (hy : y.natAbs < limit) (h : (x - y).natAbs < limit) : subS (str x) (str y) = (str (x - y), 0) := by
  unfold subS; rw [bin_str _ hx hy, res_ok h]
theorem mulS_str {x y : Int} (hx : x.natAbs < limit) (hy : y.natAbs < limit) (h : (x * y).natAbs < limit) : mulS (str x) (str y) = (str (x * y), 0) := by
  unfold mulS; rw [bin_str _ hx hy, res_ok h]
theorem gcdS_str {x y : Int} (hx : x.natAbs < limit) (hy : y.natAbs < limit) (h : Int.gcd x y < limit) : gcdS (str x) (str y) = (str (Int.gcd x y : Int), 0) := by
  unfold gcdS; rw [bin_str _ hx hy, res_ok (by omega)]
theorem divS_str {x y : Int} (hx : x.natAbs < limit) (hy : y.natAbs < limit) (h0 : y ≠ 0) : divS (str x) (str y) = (str (x / y), str (x % y), 0) := by
  have h1 : (x / y).natAbs < limit := by have := Int.natAbs_ediv_le_natAbs x y; omega
  unfold divS; rw [(valid_str x).2 hx, (valid_str y).2 hy, num_str, num_str]
  simp [h0, h1]
theorem divS_zero {x : Int} (b : List UInt8) (hb : num b = 0) : divS (str x) b = ([], [], 30) := by
  unfold divS; simp [hb]
theorem cmpS_str {x y : Int} (hx : x.natAbs < limit) (hy : y.natAbs < limit) : cmpS (str x) (str y) = sgn (x - y) := by
  unfold cmpS; rw [(valid_str x).2 hx, (valid_str y).2 hy, num_str, num_str]; rfl
theorem gcd_le_limit {x y : Int} (hx : x.natAbs < limit) (hy : y.natAbs < limit) : Int.gcd x y < limit := by
  have hl : 0 < limit := by unfold limit; exact Nat.pow_pos (by decide)
  rcases Classical.em (x = 0) with e | e
  · subst e; rw [Int.gcd_zero_left]; exact hy
  · have := Int.gcd_le_natAbs_left y e; omega

end Go.Proofs.Dt
