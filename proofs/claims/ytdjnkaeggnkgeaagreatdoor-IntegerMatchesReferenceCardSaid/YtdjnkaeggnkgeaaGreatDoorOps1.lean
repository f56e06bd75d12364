/- Add, Sub, Mul, Compare, Valid, FromInt: what they return. -/
import Derived.Test.YtdjnkaeggnkgeaaGreatDoorSplus
import Derived.Test.YtdjnkaeggnkgeaaGreatDoorText2
namespace Go.Proofs.Tryz
open Go.RowKit Go.Shelf Go.Proofs.Dt

theorem limit_eq : limit = 10000 ^ 50 := by
  unfold limit
  rw [show (10000 : Nat) = 10 ^ 4 by decide, ← Nat.pow_mul]

theorem lim_of {n : Nat} (h : n < limit) : Lim 50 n := by rw [Lim.iff, ← limit_eq]; exact h
theorem lim_num {s : ByteArray} (h : valid s.data.toList = true) : Lim 50 (num s.data.toList).natAbs := lim_of (num_lt h)

theorem textS_sv (neg : Bool) (m : Nat) : textS neg m = res (sv neg m) := textS_res neg m
theorem sv_abs (neg : Bool) (m : Nat) : (sv neg m).natAbs = m := by unfold sv; split <;> omega
theorem sv_num (n : Int) : sv (decide (n < 0)) n.natAbs = n := by
  unfold sv
  by_cases h : n < 0
  · rw [if_pos (by simpa using h)]; omega
  · rw [if_neg (by simpa using h)]; omega

/-- A string and an error code. -/
def pairV (p : List UInt8 × Int) : Value := .tuple #[.string ⟨p.1.toArray⟩, .int .i64 p.2]

/-- What an operation on two strings returns. -/
def OpPost (w : World) (p : List UInt8 × Int) (e : Ending) (w' : World) : Prop := e = .returned (pairV p) ∧ Below w.heap.size w w'

theorem bin_no {f : Int → Int → Int} {s t : List UInt8} (h : (valid s && valid t) = false) : bin f s t = ([], 30) := by unfold bin; rw [h]; rfl
theorem bin_yes {f : Int → Int → Int} {s t : List UInt8} (h : valid s = true) (k : valid t = true) : bin f s t = res (f (num s) (num t)) := by unfold bin; rw [h, k]; rfl

/-- 'text' of a number. -/
theorem text_res {neg : Bool} {v : Value} {m : Nat} {W : World} {n : Int} (hm : Num W v m) (hsv : sv neg m = n) (hl : Lim 400 n.natAbs) (ht : Tab W) : Calls Tryz.prog 40 #[.agg #[.bool neg, v]] W (OpPost W (res n)) := by
  have e : m = n.natAbs := by rw [← hsv, sv_abs]
  refine (text_any neg v m W hm (by rw [e]; exact hl) ht).mono ?_
  rintro e w' ⟨rfl, hb⟩
  rw [textS_sv, hsv]
  exact ⟨rfl, hb⟩

theorem lim_add {x y : Int} (hx : Lim 50 x.natAbs) (hy : Lim 50 y.natAbs) : Lim 400 (x + y).natAbs := ((hx.add hy).le (by omega)).mono (by omega)
theorem lim_sub {x y : Int} (hx : Lim 50 x.natAbs) (hy : Lim 50 y.natAbs) : Lim 400 (x - y).natAbs := ((hx.add hy).le (by omega)).mono (by omega)
theorem lim_mul {x y : Int} (hx : Lim 50 x.natAbs) (hy : Lim 50 y.natAbs) : Lim 400 (x * y).natAbs := by rw [Int.natAbs_mul]; exact (hx.mul hy).mono (by omega)

theorem sv_mul (p q : Bool) (m n : Nat) : sv (p != q) (m * n) = sv p m * sv q n := by cases p <;> cases q <;> simp [sv, Int.natCast_mul, Int.neg_mul, Int.mul_neg]

theorem sv_not (neg : Bool) (m : Nat) : sv (!neg) m = -sv neg m := by cases neg <;> simp [sv]

set_option maxHeartbeats 4000000 in
set_option maxRecDepth 100000 in
theorem add_any (s t : ByteArray) (w : World) (ht : Tab w) : Calls Tryz.prog 14 #[.string s, .string t] w (OpPost w (addS s.data.toList t.data.toList)) := by
  have HT := Lib.hid ht
  clear ht
  go_enter Tryz.func14, Tryz.ntmps14
  go_wp2_with fail
  refine (both_any s t w).mono ?_
  rintro e w1 (⟨hs, ht, x, y, rfl, ⟨rx, rfl, nx⟩, ⟨ry, rfl, ny⟩, hb1⟩ | ⟨hno, rfl, hb1⟩)
  · have HS := Lib.hid hs
    have HU := Lib.hid ht
    have LX := Lib.hid (lim_num hs)
    have LY := Lib.hid (lim_num ht)
    obtain ⟨ax, lx, cx, rfl⟩ := nx.shape
    obtain ⟨ay, ly, cy, rfl⟩ := ny.shape
    have S1 := Two.start w1 (.bool (decide (num s.data.toList < 0))) (.slice ax lx cx) (.bool (decide (num t.data.toList < 0))) (.slice ay ly cy)
    have HN := Lib.hid (splus_any (decide (num s.data.toList < 0)) (decide (num t.data.toList < 0)) _ _ _ _ _ (nx.below (Nat.le_refl _) S1.below) (ny.below (Nat.le_refl _) S1.below) (LX.out.fits (by omega)) (LY.out.fits (by omega)))
    rw [sv_num, sv_num] at HN
    have HB := Lib.hid (hb1.trans (S1.below.mono hb1.size))
    clear hs ht nx ny S1 hb1
    go_wp2_with fail
    refine HN.out.mono ?_
    rintro e w2 ⟨neg, v, m, rfl, hm, hsv, hb2⟩
    have HB2 := Lib.hid (HB.out.trans (hb2.mono HB.out.size))
    have HR := Lib.hid (text_res hm hsv (lim_add LX.out LY.out) (HT.out.below HB2.out))
    clear hm hsv hb2
    go_wp2_with fail
    refine HR.out.mono ?_
    rintro e w3 ⟨rfl, hb3⟩
    have HB3 := Lib.hid (HB2.out.trans (hb3.mono HB2.out.size))
    clear hb3
    unfold pairV
    go_wp2
    go_ret2
    exact ⟨by unfold addS; rw [bin_yes HS.out HU.out]; rfl, HB3.out⟩
  · have HNO := Lib.hid hno
    clear hno
    go_wp2
    go_ret2
    exact ⟨by unfold addS; rw [bin_no HNO.out]; rfl, hb1.trans (((Below.refl _ w1).alloc (Nat.le_refl _) _).alloc (by simp) _ |>.mono hb1.size)⟩

set_option maxHeartbeats 4000000 in
set_option maxRecDepth 100000 in
theorem sub_any (s t : ByteArray) (w : World) (ht : Tab w) : Calls Tryz.prog 16 #[.string s, .string t] w (OpPost w (subS s.data.toList t.data.toList)) := by
  have HT := Lib.hid ht
  clear ht
  go_enter Tryz.func16, Tryz.ntmps16
  go_wp2_with fail
  refine (both_any s t w).mono ?_
  rintro e w1 (⟨hs, ht, x, y, rfl, ⟨rx, rfl, nx⟩, ⟨ry, rfl, ny⟩, hb1⟩ | ⟨hno, rfl, hb1⟩)
  · have HS := Lib.hid hs
    have HU := Lib.hid ht
    have LX := Lib.hid (lim_num hs)
    have LY := Lib.hid (lim_num ht)
    obtain ⟨ax, lx, cx, rfl⟩ := nx.shape
    obtain ⟨ay, ly, cy, rfl⟩ := ny.shape
    have S1 := Two.start w1 (.bool (decide (num s.data.toList < 0))) (.slice ax lx cx) (.bool (decide (num t.data.toList < 0))) (.slice ay ly cy)
    have S2 := S1.s10 (.bool (!decide (num t.data.toList < 0)))
    generalize hW1 : ((w1.alloc (.cells #[.bool (decide (num s.data.toList < 0)), .slice ax lx cx] 50)).alloc (.cells #[.bool (decide (num t.data.toList < 0)), .slice ay ly cy] 50)) = W1 at S1 S2
    have HN := Lib.hid (splus_any (decide (num s.data.toList < 0)) (!decide (num t.data.toList < 0)) _ _ _ _ _ (nx.below (Nat.le_refl _) S2.below) (ny.below (Nat.le_refl _) S2.below) (LX.out.fits (by omega)) (LY.out.fits (by omega)))
    rw [sv_num, sv_not, sv_num, ← Int.sub_eq_add_neg] at HN
    have HB := Lib.hid (hb1.trans (S2.below.mono hb1.size))
    have c10 := S1.c10
    have f10 := S1.f1 0
    have d00 := S2.c00; have d01 := S2.c01; have d10 := S2.c10; have d11 := S2.c11
    clear hs ht nx ny S1 S2 hb1
    go_wp2_with fail
    refine HN.out.mono ?_
    rintro e w2 ⟨neg, v, m, rfl, hm, hsv, hb2⟩
    have HB2 := Lib.hid (HB.out.trans (hb2.mono HB.out.size))
    have HR := Lib.hid (text_res hm hsv (lim_sub LX.out LY.out) (HT.out.below HB2.out))
    clear hm hsv hb2
    go_wp2_with fail
    refine HR.out.mono ?_
    rintro e w3 ⟨rfl, hb3⟩
    have HB3 := Lib.hid (HB2.out.trans (hb3.mono HB2.out.size))
    clear hb3
    unfold pairV
    go_wp2
    go_ret2
    exact ⟨by unfold subS; rw [bin_yes HS.out HU.out]; rfl, HB3.out⟩
  · have HNO := Lib.hid hno
    clear hno
    go_wp2
    go_ret2
    exact ⟨by unfold subS; rw [bin_no HNO.out]; rfl, hb1.trans (((Below.refl _ w1).alloc (Nat.le_refl _) _).alloc (by simp) _ |>.mono hb1.size)⟩

end Go.Proofs.Tryz
