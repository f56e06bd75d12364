/- Compare, Valid, FromInt: what they return. -/
import Derived.Test.YtdjnkaeggnkgeaaGreatDoorOps2
namespace Go.Proofs.Tryz
open Go.RowKit Go.Shelf Go.Proofs.Dt

theorem valid_any (s : ByteArray) (w : World) : Calls Tryz.prog 19 #[.string s] w fun e w' => e = .returned (.bool (valid s.data.toList)) ∧ Below w.heap.size w w' := by
  go_enter Tryz.func19, Tryz.ntmps19
  go_wp2_with fail
  refine (isValid_any s w).mono ?_
  rintro e w1 ⟨rfl, hb⟩
  go_wp2
  go_ret
  exact ⟨rfl, hb⟩

theorem fromInt_any (n : Int) (h0 : -9223372036854775808 ≤ n) (h1 : n ≤ 9223372036854775807) (w : World) (ht : Tab w) : Calls Tryz.prog 35 #[.int .i64 n] w fun e w' => e = .returned (.string ⟨(str n).toArray⟩) ∧ Below w.heap.size w w' := by
  have hI := Lib.hid (Tryz.strconv_Itoa n h0 h1 w ht)
  obtain ⟨r, hr⟩ : ∃ r : ByteArray, r = ⟨(Lib.itoa n).toArray⟩ := ⟨_, rfl⟩
  rw [← hr] at hI
  have HR := Lib.hid hr
  clear hr h0 h1
  go_enter Tryz.func35, Tryz.ntmps35
  go_wp2_with fail
  refine hI.out.mono ?_
  rintro e w1 ⟨rfl, k, os, rfl⟩
  go_wp2
  go_ret
  exact ⟨by rw [show r = ⟨(str n).toArray⟩ from HR.out]; rfl, Lib.below_grow _ _ (Nat.le_refl _) _ _⟩

theorem cmpI_sgn (p q : Bool) (a b : Nat) (x y : Int) (hx : sv p a = x) (hy : sv q b = y) (hp : p = decide (x < 0)) (hq : q = decide (y < 0)) :
    (if p && q then cmpI b a else if p then -1 else if q then 1 else cmpI a b) = sgn (x - y) := by
  subst hp hq
  have ha : a = x.natAbs := by rw [← hx, sv_abs]
  have hb : b = y.natAbs := by rw [← hy, sv_abs]
  subst ha hb
  unfold sgn cmpI
  by_cases h1 : x < 0 <;> by_cases h2 : y < 0 <;> simp only [h1, h2, decide_true, decide_false, Bool.and_true, Bool.and_false, if_true, if_false, Bool.false_eq_true] <;> (repeat' split) <;> omega

set_option maxHeartbeats 4000000 in
set_option maxRecDepth 100000 in
theorem compareS_any (s t : ByteArray) (w : World) : Calls Tryz.prog 18 #[.string s, .string t] w fun e w' => e = .returned (.int .i64 (cmpS s.data.toList t.data.toList)) ∧ Below w.heap.size w w' := by
  obtain ⟨c, hc⟩ : ∃ c, c = cmpS s.data.toList t.data.toList := ⟨_, rfl⟩
  have HC := Lib.hid hc
  rw [← hc]
  clear hc
  go_enter Tryz.func18, Tryz.ntmps18
  go_wp2_with fail
  refine (both_gen s t w).mono ?_
  rintro e w1 (⟨p, q, a, b, ax, lx, cx, ay, ly, cy, rfl, nx, ny, HG, hb1⟩ | ⟨rfl, hno, hb1⟩)
  · have S1 := Two.start w1 (.bool p) (.slice ax lx cx) (.bool q) (.slice ay ly cy)
    have hcs : c = if p && q then cmpI b a else if p then -1 else if q then 1 else cmpI a b := by
      rw [cmpI_sgn p q a b _ _ HG.out.hx HG.out.hy HG.out.hp HG.out.hq, HC.out]
      unfold cmpS
      rw [HG.out.hs, HG.out.ht]; rfl
    have HCS := Lib.hid hcs
    have hAB := Lib.hid (compare_any _ _ a b _ (nx.below (Nat.le_refl _) S1.below) (ny.below (Nat.le_refl _) S1.below) (HG.out.la.fits (by omega)))
    have hBA := Lib.hid (compare_any _ _ b a _ (ny.below (Nat.le_refl _) S1.below) (nx.below (Nat.le_refl _) S1.below) (HG.out.lb.fits (by omega)))
    have HB := Lib.hid (hb1.trans (S1.below.mono hb1.size))
    clear hcs S1 nx ny hb1
    cases p <;> cases q
    · go_wp2_with fail
      refine hAB.out.mono ?_
      rintro e w2 ⟨rfl, hb2⟩
      go_wp2
      go_ret
      exact ⟨ret_int HCS.out.symm, HB.out.trans (hb2.mono HB.out.size)⟩
    · go_wp2
      go_ret
      exact ⟨ret_int HCS.out.symm, HB.out⟩
    · go_wp2
      go_ret
      exact ⟨ret_int HCS.out.symm, HB.out⟩
    · go_wp2_with fail
      refine hBA.out.mono ?_
      rintro e w2 ⟨rfl, hb2⟩
      go_wp2
      go_ret
      exact ⟨ret_int HCS.out.symm, HB.out.trans (hb2.mono HB.out.size)⟩
  · go_wp2
    go_ret
    exact ⟨ret_int (by rw [HC.out]; unfold cmpS; rw [hno.out]; rfl), hb1.trans (((Below.refl _ w1).alloc (Nat.le_refl _) _).alloc (by simp) _ |>.mono hb1.size)⟩

end Go.Proofs.Tryz
