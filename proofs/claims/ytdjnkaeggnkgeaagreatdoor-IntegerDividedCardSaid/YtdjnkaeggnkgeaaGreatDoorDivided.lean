/- IntegerDivided returns true: quotient times divisor plus remainder is the dividend. -/
import Derived.Test.YtdjnkaeggnkgeaaGreatDoorEqs
namespace Go.Proofs.Tryz
open Go.RowKit Go.Shelf Go.Proofs.Dt

set_option maxHeartbeats 4000000 in
set_option maxRecDepth 100000 in
theorem divided_any (a b : ByteArray) (w : World) (ht : Tab w) : Calls Tryz.prog 4 #[(.string a), (.string b)] w fun e w' => e = .returned (.bool true) ∧ Below w.heap.size w w' := by
  have HT := Lib.hid ht
  have HB0 := Since.refl w
  clear ht
  go_enter Tryz.func4, Tryz.ntmps4
  go_wp2_with fail
  refine (sane_any _ (HB0.tab HT)).mono ?_
  rintro e w1 ⟨rfl, hb1⟩
  have HB1 : Since w w1 := HB0.next hb1
  clear hb1
  go_wp2_with fail
  refine (made_to 90 (by decide) rfl HB1).mono ?_
  rintro e w2 ⟨x, X, rfl, HX, HB2⟩
  have BX := HX.out.2
  have IX : Is x X := HX.out.1
  go_wp2_with fail
  refine (made_to 60 (by decide) rfl HB2).mono ?_
  rintro e w3 ⟨y, Y, rfl, HY, HB3⟩
  have BY := HY.out.2
  have IY : Is y Y := HY.out.1
  by_cases hY : Y = 0
  · subst hY
    obtain rfl : y = (⟨#[48]⟩ : ByteArray) := (Is.inj IY Is.zero).2 rfl
    have F1 : Hid (divS x.data.toList [48] = ([], [], 30)) := by show _ = _; rw [Is.list IX]; exact divS_zero _ (by decide)
    clear BX IX BY IY HX HY
    go_wp2_with fail
    refine (div_to (⟨#[]⟩ : ByteArray) (⟨#[]⟩ : ByteArray) 30 HT HB3 F1.out).mono ?_
    rintro e w4 ⟨rfl, HB4⟩
    go_wp2
    go_ret
    exact ⟨rfl, HB4.out⟩
  · by_cases hs : Y < 0
    · have hyz : y ≠ (⟨#[48]⟩ : ByteArray) := fun e => hY ((Is.inj IY Is.zero).1 e)
      have hy0 := toList_ne_zero hyz
      clear hyz
      have hR0 := Int.emod_nonneg X hY
      have hR1 := Int.emod_lt X hY
      have hQ := BX.div Y
      have hR : Bd 60 (X % Y) := by unfold Bd at *; omega
      obtain ⟨q, I_q⟩ := Is.exists (X / Y)
      have b_q : (X / Y).natAbs < limit := hQ.limit (by decide)
      obtain ⟨r, I_r⟩ := Is.exists (X % Y)
      have b_r : (X % Y).natAbs < limit := hR.limit (by decide)
      obtain ⟨p, I_p⟩ := Is.exists (X / Y * Y)
      have b_p : (X / Y * Y).natAbs < limit := (hQ.mul BY).limit (by decide)
      obtain ⟨m, I_m⟩ := Is.exists (X * Y)
      have b_m : (X * Y).natAbs < limit := (BX.mul BY).limit (by decide)
      have F2 : Hid (divS x.data.toList y.data.toList = (q.data.toList, r.data.toList, 0)) := div_is IX IY I_q I_r (BX.limit (by decide)) (BY.limit (by decide)) hY rfl rfl
      have F3 : Hid (mulS q.data.toList y.data.toList = (p.data.toList, 0)) := mul_is I_q IY I_p b_q (BY.limit (by decide)) b_p rfl
      have F4 : Hid (addS p.data.toList r.data.toList = (x.data.toList, 0)) := add_is I_p I_r IX b_p b_r (BX.limit (by decide)) (Int.ediv_mul_add_emod X Y)
      have F5 : Hid (mulS y.data.toList (⟨#[49]⟩ : ByteArray).data.toList = (y.data.toList, 0)) := mul_is IY Is.one IY (BY.limit (by decide)) (small_limit (by decide)) (BY.limit (by decide)) (Int.mul_one Y)
      have F6 : Hid (cmpS y.data.toList (⟨#[48]⟩ : ByteArray).data.toList = -1) := (cmp_is IY Is.zero (BY.limit (by decide)) (small_limit (by decide))).trans (by unfold sgn; split <;> omega)
      obtain ⟨s, I_s⟩ := Is.exists (0 - Y)
      have b_s : (0 - Y).natAbs < limit := (by have h : Y.natAbs < limit := (BY.limit (by decide)); omega)
      have F7 : Hid (subS (⟨#[48]⟩ : ByteArray).data.toList y.data.toList = (s.data.toList, 0)) := sub_is Is.zero IY I_s (small_limit (by decide)) (BY.limit (by decide)) b_s rfl
      have F8 : Hid (mulS x.data.toList y.data.toList = (m.data.toList, 0)) := mul_is IX IY I_m (BX.limit (by decide)) (BY.limit (by decide)) b_m rfl
      have F9 : Hid (divS m.data.toList y.data.toList = (x.data.toList, (⟨#[48]⟩ : ByteArray).data.toList, 0)) := div_is I_m IY IX Is.zero b_m (BY.limit (by decide)) hY (Int.mul_ediv_cancel X hY) (Int.mul_emod_left X Y)
      obtain ⟨c, hc⟩ : ∃ c, c = sgn (X % Y - 0) := ⟨_, rfl⟩
      have hc0 : 0 ≤ c := by rw [hc]; unfold sgn; rw [if_neg (by omega)]; split <;> decide
      have F10 : Hid (cmpS r.data.toList (⟨#[48]⟩ : ByteArray).data.toList = c) := (cmp_is I_r Is.zero b_r (small_limit (by decide))).trans hc.symm
      have F11 : Hid (cmpS r.data.toList s.data.toList = -1) := (cmp_is I_r I_s b_r b_s).trans (by unfold sgn; rw [if_pos (by omega)])
      have F12 : Hid (valid r.data.toList = true) := valid_is I_r b_r
      clear hc hR0 hR1 hQ hR I_q I_r I_p I_m b_q b_r b_p b_m BX BY IX IY HX HY hs hY I_s b_s
      go_wp2_with fail
      refine (div_to q r 0 HT HB3 F2.out).mono ?_
      rintro e w4 ⟨rfl, HB4⟩
      go_wp2_with fail
      refine (mul_to p 0 HT HB4 F3.out).mono ?_
      rintro e w5 ⟨rfl, HB5⟩
      go_wp2_with fail
      refine (add_to x 0 HT HB5 F4.out).mono ?_
      rintro e w6 ⟨rfl, HB6⟩
      go_wp2_with fail
      refine (mul_to y 0 HT HB6 F5.out).mono ?_
      rintro e w7 ⟨rfl, HB7⟩
      go_wp2_with fail
      refine (cmp_to (-1) HB7 F6.out).mono ?_
      rintro e w8 ⟨rfl, HB8⟩
      go_wp2_with fail
      refine (sub_to s 0 HT HB8 F7.out).mono ?_
      rintro e w9 ⟨rfl, HB9⟩
      go_wp2_with fail
      refine (mul_to m 0 HT HB9 F8.out).mono ?_
      rintro e w10 ⟨rfl, HB10⟩
      go_wp2_with fail
      refine (div_to x (⟨#[48]⟩ : ByteArray) 0 HT HB10 F9.out).mono ?_
      rintro e w11 ⟨rfl, HB11⟩
      go_wp2_with fail
      refine (cmp_to c HB11 F10.out).mono ?_
      rintro e w12 ⟨rfl, HB12⟩
      go_wp2_with fail
      refine (cmp_to (-1) HB12 F11.out).mono ?_
      rintro e w13 ⟨rfl, HB13⟩
      go_wp2_with fail
      refine (valid_to true HB13 F12.out).mono ?_
      rintro e w14 ⟨rfl, HB14⟩
      go_wp2
      go_ret
      exact ⟨rfl, HB14.out⟩
    · have hyz : y ≠ (⟨#[48]⟩ : ByteArray) := fun e => hY ((Is.inj IY Is.zero).1 e)
      have hy0 := toList_ne_zero hyz
      clear hyz
      have hR0 := Int.emod_nonneg X hY
      have hR1 := Int.emod_lt X hY
      have hQ := BX.div Y
      have hR : Bd 60 (X % Y) := by unfold Bd at *; omega
      obtain ⟨q, I_q⟩ := Is.exists (X / Y)
      have b_q : (X / Y).natAbs < limit := hQ.limit (by decide)
      obtain ⟨r, I_r⟩ := Is.exists (X % Y)
      have b_r : (X % Y).natAbs < limit := hR.limit (by decide)
      obtain ⟨p, I_p⟩ := Is.exists (X / Y * Y)
      have b_p : (X / Y * Y).natAbs < limit := (hQ.mul BY).limit (by decide)
      obtain ⟨m, I_m⟩ := Is.exists (X * Y)
      have b_m : (X * Y).natAbs < limit := (BX.mul BY).limit (by decide)
      have F13 : Hid (divS x.data.toList y.data.toList = (q.data.toList, r.data.toList, 0)) := div_is IX IY I_q I_r (BX.limit (by decide)) (BY.limit (by decide)) hY rfl rfl
      have F14 : Hid (mulS q.data.toList y.data.toList = (p.data.toList, 0)) := mul_is I_q IY I_p b_q (BY.limit (by decide)) b_p rfl
      have F15 : Hid (addS p.data.toList r.data.toList = (x.data.toList, 0)) := add_is I_p I_r IX b_p b_r (BX.limit (by decide)) (Int.ediv_mul_add_emod X Y)
      have F16 : Hid (mulS y.data.toList (⟨#[49]⟩ : ByteArray).data.toList = (y.data.toList, 0)) := mul_is IY Is.one IY (BY.limit (by decide)) (small_limit (by decide)) (BY.limit (by decide)) (Int.mul_one Y)
      have F17 : Hid (cmpS y.data.toList (⟨#[48]⟩ : ByteArray).data.toList = 1) := (cmp_is IY Is.zero (BY.limit (by decide)) (small_limit (by decide))).trans (by unfold sgn; rw [if_neg (by omega), if_pos (by omega)])
      have F18 : Hid (mulS x.data.toList y.data.toList = (m.data.toList, 0)) := mul_is IX IY I_m (BX.limit (by decide)) (BY.limit (by decide)) b_m rfl
      have F19 : Hid (divS m.data.toList y.data.toList = (x.data.toList, (⟨#[48]⟩ : ByteArray).data.toList, 0)) := div_is I_m IY IX Is.zero b_m (BY.limit (by decide)) hY (Int.mul_ediv_cancel X hY) (Int.mul_emod_left X Y)
      obtain ⟨c, hc⟩ : ∃ c, c = sgn (X % Y - 0) := ⟨_, rfl⟩
      have hc0 : 0 ≤ c := by rw [hc]; unfold sgn; rw [if_neg (by omega)]; split <;> decide
      have F20 : Hid (cmpS r.data.toList (⟨#[48]⟩ : ByteArray).data.toList = c) := (cmp_is I_r Is.zero b_r (small_limit (by decide))).trans hc.symm
      have F21 : Hid (cmpS r.data.toList y.data.toList = -1) := (cmp_is I_r IY b_r (BY.limit (by decide))).trans (by unfold sgn; rw [if_pos (by omega)])
      have F22 : Hid (valid r.data.toList = true) := valid_is I_r b_r
      clear hc hR0 hR1 hQ hR I_q I_r I_p I_m b_q b_r b_p b_m BX BY IX IY HX HY hs hY
      go_wp2_with fail
      refine (div_to q r 0 HT HB3 F13.out).mono ?_
      rintro e w4 ⟨rfl, HB4⟩
      go_wp2_with fail
      refine (mul_to p 0 HT HB4 F14.out).mono ?_
      rintro e w5 ⟨rfl, HB5⟩
      go_wp2_with fail
      refine (add_to x 0 HT HB5 F15.out).mono ?_
      rintro e w6 ⟨rfl, HB6⟩
      go_wp2_with fail
      refine (mul_to y 0 HT HB6 F16.out).mono ?_
      rintro e w7 ⟨rfl, HB7⟩
      go_wp2_with fail
      refine (cmp_to (1) HB7 F17.out).mono ?_
      rintro e w8 ⟨rfl, HB8⟩
      go_wp2_with fail
      refine (mul_to m 0 HT HB8 F18.out).mono ?_
      rintro e w9 ⟨rfl, HB9⟩
      go_wp2_with fail
      refine (div_to x (⟨#[48]⟩ : ByteArray) 0 HT HB9 F19.out).mono ?_
      rintro e w10 ⟨rfl, HB10⟩
      go_wp2_with fail
      refine (cmp_to c HB10 F20.out).mono ?_
      rintro e w11 ⟨rfl, HB11⟩
      go_wp2_with fail
      refine (cmp_to (-1) HB11 F21.out).mono ?_
      rintro e w12 ⟨rfl, HB12⟩
      go_wp2_with fail
      refine (valid_to true HB12 F22.out).mono ?_
      rintro e w13 ⟨rfl, HB13⟩
      go_wp2
      go_ret
      exact ⟨rfl, HB13.out⟩

end Go.Proofs.Tryz
