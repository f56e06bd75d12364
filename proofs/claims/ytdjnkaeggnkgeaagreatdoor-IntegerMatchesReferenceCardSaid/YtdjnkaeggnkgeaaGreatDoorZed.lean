/- The operations on strings whose results are known: what they return, and what they leave in memory, counted from one first world. -/
import Derived.Test.YtdjnkaeggnkgeaaGreatDoorOps7
import Derived.Test.YtdjnkaeggnkgeaaGreatDoorMade
namespace Go.Proofs.Dt

theorem add_lit {a b : List UInt8} (c : List UInt8) (ha : valid a = true) (hb : valid b = true) (hc : valid c = true) (h : num a + num b = num c) : addS a b = (c, 0) := by
  unfold addS bin; rw [ha, hb]; show res (num a + num b) = _; rw [h, res_ok (num_lt hc), str_num hc]
theorem sub_lit {a b : List UInt8} (c : List UInt8) (ha : valid a = true) (hb : valid b = true) (hc : valid c = true) (h : num a - num b = num c) : subS a b = (c, 0) := by
  unfold subS bin; rw [ha, hb]; show res (num a - num b) = _; rw [h, res_ok (num_lt hc), str_num hc]
theorem mul_lit {a b : List UInt8} (c : List UInt8) (ha : valid a = true) (hb : valid b = true) (hc : valid c = true) (h : num a * num b = num c) : mulS a b = (c, 0) := by
  unfold mulS bin; rw [ha, hb]; show res (num a * num b) = _; rw [h, res_ok (num_lt hc), str_num hc]
theorem gcd_lit {a b : List UInt8} (c : List UInt8) (ha : valid a = true) (hb : valid b = true) (hc : valid c = true) (h : (Int.gcd (num a) (num b) : Int) = num c) : gcdS a b = (c, 0) := by
  unfold gcdS bin; rw [ha, hb]; show res (Int.gcd (num a) (num b) : Int) = _; rw [h, res_ok (num_lt hc), str_num hc]
theorem div_lit {a b : List UInt8} (c d : List UInt8) (ha : valid a = true) (hb : valid b = true) (hc : valid c = true) (hd : valid d = true) (h0 : num b ≠ 0) (h : num a / num b = num c) (k : num a % num b = num d) : divS a b = (c, d, 0) := by
  unfold divS; rw [ha, hb, decide_eq_true h0, h, k, if_pos (show (true && true && true) = true from rfl), if_pos (num_lt hc), str_num hc, str_num hd]
theorem root_lit {a : List UInt8} (c : List UInt8) (ha : valid a = true) (h0 : 0 ≤ num a) (hc : valid c = true) (h1 : 0 ≤ num c) (h : IsRoot (num c).toNat (num a).toNat) : rootS a = (c, 0) := by
  unfold rootS; rw [ha, decide_eq_true h0, rt_eq h, if_pos (show (true && true) = true from rfl), Int.toNat_of_nonneg h1, str_num hc]
theorem root_no {a : List UInt8} (h0 : num a < 0) : rootS a = ([], 30) := by
  unfold rootS; rw [decide_eq_false (show ¬ 0 ≤ num a by omega), Bool.and_false]; rfl
theorem add_no {a b : List UInt8} (h : valid a = false) : addS a b = ([], 30) := by
  unfold addS bin; rw [h]; rfl
theorem cmp_lit {a b : List UInt8} (ha : valid a = true) (hb : valid b = true) : cmpS a b = sgn (num a - num b) := by
  unfold cmpS; rw [ha, hb]; rfl

theorem root_str {x : Int} (hx : x.natAbs < limit) (h0 : 0 ≤ x) : rootS (str x) = (str (rt x.toNat : Int), 0) := by
  unfold rootS; rw [(valid_str x).2 hx, num_str, decide_eq_true h0]; rfl
theorem root_str_neg {x : Int} (h0 : x < 0) : rootS (str x) = ([], 30) := root_no (by rw [num_str]; exact h0)
theorem addS_no {x y : Int} (hx : x.natAbs < limit) (hy : y.natAbs < limit) (h : ¬ (x + y).natAbs < limit) : addS (str x) (str y) = ([], 30) := by
  unfold addS; rw [bin_str _ hx hy, res_no h]
theorem subS_no {x y : Int} (hx : x.natAbs < limit) (hy : y.natAbs < limit) (h : ¬ (x - y).natAbs < limit) : subS (str x) (str y) = ([], 30) := by
  unfold subS; rw [bin_str _ hx hy, res_no h]
theorem mulS_no {x y : Int} (hx : x.natAbs < limit) (hy : y.natAbs < limit) (h : ¬ (x * y).natAbs < limit) : mulS (str x) (str y) = ([], 30) := by
  unfold mulS; rw [bin_str _ hx hy, res_no h]

end Go.Proofs.Dt
namespace Go.Proofs.Tryz
open Go.RowKit Go.Shelf Go.Proofs.Dt

/-- Nothing that lay in the first world has changed. -/
abbrev Since (w0 w : World) : Prop := Hid (Below w0.heap.size w0 w)
theorem Since.refl (w : World) : Since w w := Below.refl _ _
theorem Since.next {w0 w w' : World} (h : Since w0 w) (k : Below w.heap.size w w') : Since w0 w' := h.out.trans (k.mono h.out.size)
theorem Since.tab {w0 w : World} (ht : Hid (Tab w0)) (h : Since w0 w) : Tab w := ht.out.below h.out

section
variable {w0 w : World}

theorem add_to {x y : ByteArray} (r : ByteArray) (c : Int) (ht : Hid (Tab w0)) (hB : Since w0 w) (h : addS x.data.toList y.data.toList = (r.data.toList, c)) :
    Calls Tryz.prog 14 #[.string x, .string y] w fun e w' => e = .returned (.tuple #[.string r, .int .i64 c]) ∧ Since w0 w' := by
  refine (add_any x y w (hB.tab ht)).mono ?_
  rintro e w' ⟨rfl, hb⟩
  exact ⟨by rw [h]; rfl, hB.next hb⟩
theorem sub_to {x y : ByteArray} (r : ByteArray) (c : Int) (ht : Hid (Tab w0)) (hB : Since w0 w) (h : subS x.data.toList y.data.toList = (r.data.toList, c)) :
    Calls Tryz.prog 16 #[.string x, .string y] w fun e w' => e = .returned (.tuple #[.string r, .int .i64 c]) ∧ Since w0 w' := by
  refine (sub_any x y w (hB.tab ht)).mono ?_
  rintro e w' ⟨rfl, hb⟩
  exact ⟨by rw [h]; rfl, hB.next hb⟩
theorem mul_to {x y : ByteArray} (r : ByteArray) (c : Int) (ht : Hid (Tab w0)) (hB : Since w0 w) (h : mulS x.data.toList y.data.toList = (r.data.toList, c)) :
    Calls Tryz.prog 15 #[.string x, .string y] w fun e w' => e = .returned (.tuple #[.string r, .int .i64 c]) ∧ Since w0 w' := by
  refine (mul_any x y w (hB.tab ht)).mono ?_
  rintro e w' ⟨rfl, hb⟩
  exact ⟨by rw [h]; rfl, hB.next hb⟩
theorem gcd_to {x y : ByteArray} (r : ByteArray) (c : Int) (ht : Hid (Tab w0)) (hB : Since w0 w) (h : gcdS x.data.toList y.data.toList = (r.data.toList, c)) :
    Calls Tryz.prog 20 #[.string x, .string y] w fun e w' => e = .returned (.tuple #[.string r, .int .i64 c]) ∧ Since w0 w' := by
  refine (gcd_any x y w (hB.tab ht)).mono ?_
  rintro e w' ⟨rfl, hb⟩
  exact ⟨by rw [h]; rfl, hB.next hb⟩
theorem root_to {x : ByteArray} (r : ByteArray) (c : Int) (ht : Hid (Tab w0)) (hB : Since w0 w) (h : rootS x.data.toList = (r.data.toList, c)) :
    Calls Tryz.prog 21 #[.string x] w fun e w' => e = .returned (.tuple #[.string r, .int .i64 c]) ∧ Since w0 w' := by
  refine (root_any x w (hB.tab ht)).mono ?_
  rintro e w' ⟨rfl, hb⟩
  exact ⟨by rw [h]; rfl, hB.next hb⟩
theorem div_to {x y : ByteArray} (r s : ByteArray) (c : Int) (ht : Hid (Tab w0)) (hB : Since w0 w) (h : divS x.data.toList y.data.toList = (r.data.toList, s.data.toList, c)) :
    Calls Tryz.prog 17 #[.string x, .string y] w fun e w' => e = .returned (.tuple #[.string r, .string s, .int .i64 c]) ∧ Since w0 w' := by
  refine (div_any x y w (hB.tab ht)).mono ?_
  rintro e w' ⟨rfl, hb⟩
  exact ⟨by rw [h], hB.next hb⟩
theorem cmp_to {x y : ByteArray} (c : Int) (hB : Since w0 w) (h : cmpS x.data.toList y.data.toList = c) :
    Calls Tryz.prog 18 #[.string x, .string y] w fun e w' => e = .returned (.int .i64 c) ∧ Since w0 w' := by
  refine (compareS_any x y w).mono ?_
  rintro e w' ⟨rfl, hb⟩
  exact ⟨by rw [h], hB.next hb⟩
theorem valid_to {x : ByteArray} (c : Bool) (hB : Since w0 w) (h : valid x.data.toList = c) :
    Calls Tryz.prog 19 #[.string x] w fun e w' => e = .returned (.bool c) ∧ Since w0 w' := by
  refine (valid_any x w).mono ?_
  rintro e w' ⟨rfl, hb⟩
  exact ⟨by rw [h], hB.next hb⟩
theorem made_to {s : ByteArray} {most : Int} (m : Nat) (hm : m ≤ 200) (he : most = (m : Int)) (hB : Since w0 w) :
    Calls Tryz.prog 13 #[.string s, .int .i64 most] w fun e w' => ∃ (x : ByteArray) (z : Int), e = .returned (.string x) ∧ Hid (x = ⟨(str z).toArray⟩ ∧ Bd m z) ∧ Since w0 w' := by
  subst he
  refine (made_any s m hm w).mono ?_
  rintro e w' ⟨z, rfl, hz, hb⟩
  exact ⟨_, z, rfl, ⟨rfl, hz.out⟩, hB.next hb⟩

end

end Go.Proofs.Tryz
