/- IntegerOrder returns true: Compare is the order of the numbers. -/
import Derived.Test.YtdjnkaeggnkgeaaGreatDoorEqs
namespace Go.Proofs.Tryz
open Go.RowKit Go.Shelf Go.Proofs.Dt

theorem sgn_lt {x : Int} (h : x < 0) : sgn x = -1 := by unfold sgn; rw [if_pos h]
theorem sgn_gt {x : Int} (h : 0 < x) : sgn x = 1 := by unfold sgn; rw [if_neg (by omega), if_pos h]
theorem sgn_eq {x : Int} (h : x = 0) : sgn x = 0 := by unfold sgn; rw [if_neg (by omega), if_neg (by omega)]
theorem sgn_le {x : Int} (h : x ≤ 0) : sgn x ≤ 0 := by
  unfold sgn
  split
  · decide
  · rw [if_neg (by omega)]; decide

set_option maxHeartbeats 4000000 in
set_option maxRecDepth 100000 in
theorem order_any (a b c : ByteArray) (w : World) (ht : Tab w) : Calls Tryz.prog 7 #[(.string a), (.string b), (.string c)] w fun e w' => e = .returned (.bool true) ∧ Below w.heap.size w w' := by
  have HT := Lib.hid ht
  have HB0 := Since.refl w
  clear ht
  go_enter Tryz.func7, Tryz.ntmps7
  go_wp2_with fail
  refine (sane_any _ (HB0.tab HT)).mono ?_
  rintro e w1 ⟨rfl, hb1⟩
  have HB1 : Since w w1 := HB0.next hb1
  clear hb1
  go_wp2_with fail
  refine (made_to 60 (by decide) rfl HB1).mono ?_
  rintro e w2 ⟨x, X, rfl, HX, HB2⟩
  have BX := HX.out.2
  have IX : Is x X := HX.out.1
  go_wp2_with fail
  refine (made_to 60 (by decide) rfl HB2).mono ?_
  rintro e w3 ⟨y, Y, rfl, HY, HB3⟩
  have BY := HY.out.2
  have IY : Is y Y := HY.out.1
  go_wp2_with fail
  refine (made_to 60 (by decide) rfl HB3).mono ?_
  rintro e w4 ⟨z, Z, rfl, HZ, HB4⟩
  have BZ := HZ.out.2
  have IZ : Is z Z := HZ.out.1
  rcases Int.lt_trichotomy X Y with hXY | hXY | hXY
  · have hxy : (x.toList == y.toList) = false := toList_ne fun e => by have := (Is.inj IX IY).1 e; omega
    obtain ⟨d, I_d⟩ := Is.exists (X - Y)
    have b_d : (X - Y).natAbs < limit := (BX.sub BY).limit (by decide)
    obtain ⟨xz, I_xz⟩ := Is.exists (X + Z)
    have b_xz : (X + Z).natAbs < limit := (BX.add BZ).limit (by decide)
    obtain ⟨yz, I_yz⟩ := Is.exists (Y + Z)
    have b_yz : (Y + Z).natAbs < limit := (BY.add BZ).limit (by decide)
    have F1 : Hid (cmpS x.data.toList y.data.toList = -1) := (cmp_is IX IY (BX.limit (by decide)) (BY.limit (by decide))).trans (sgn_lt (by omega))
    have F2 : Hid (subS x.data.toList y.data.toList = (d.data.toList, 0)) := sub_is IX IY I_d (BX.limit (by decide)) (BY.limit (by decide)) b_d rfl
    have F3 : Hid (addS x.data.toList z.data.toList = (xz.data.toList, 0)) := add_is IX IZ I_xz (BX.limit (by decide)) (BZ.limit (by decide)) b_xz rfl
    have F4 : Hid (addS y.data.toList z.data.toList = (yz.data.toList, 0)) := add_is IY IZ I_yz (BY.limit (by decide)) (BZ.limit (by decide)) b_yz rfl
    have F5 : Hid (cmpS y.data.toList x.data.toList = 1) := (cmp_is IY IX (BY.limit (by decide)) (BX.limit (by decide))).trans (sgn_gt (by omega))
    have F6 : Hid (cmpS d.data.toList (⟨#[48]⟩ : ByteArray).data.toList = -1) := (cmp_is I_d Is.zero b_d (small_limit (by decide))).trans (sgn_lt (by omega))
    have F7 : Hid (cmpS xz.data.toList yz.data.toList = -1) := (cmp_is I_xz I_yz b_xz b_yz).trans (sgn_lt (by omega))
    by_cases hZ : Z < Y
    · have F8 : Hid (cmpS y.data.toList z.data.toList = 1) := (cmp_is IY IZ (BY.limit (by decide)) (BZ.limit (by decide))).trans (sgn_gt (by omega))
      clear hZ BX BZ IX IZ HX HZ HY I_d b_d I_xz b_xz I_yz b_yz BY IY hXY
      go_wp2_with fail
      refine (cmp_to (-1) HB4 F1.out).mono ?_
      rintro e w5 ⟨rfl, HB5⟩
      go_wp2_with fail
      refine (sub_to d 0 HT HB5 F2.out).mono ?_
      rintro e w6 ⟨rfl, HB6⟩
      go_wp2_with fail
      refine (add_to xz 0 HT HB6 F3.out).mono ?_
      rintro e w7 ⟨rfl, HB7⟩
      go_wp2_with fail
      refine (add_to yz 0 HT HB7 F4.out).mono ?_
      rintro e w8 ⟨rfl, HB8⟩
      go_wp2_with fail
      refine (cmp_to (1) HB8 F5.out).mono ?_
      rintro e w9 ⟨rfl, HB9⟩
      go_wp2_with fail
      refine (cmp_to (-1) HB9 F6.out).mono ?_
      rintro e w10 ⟨rfl, HB10⟩
      go_wp2_with fail
      refine (cmp_to (-1) HB10 F7.out).mono ?_
      rintro e w11 ⟨rfl, HB11⟩
      go_wp2_with fail
      refine (cmp_to 1 HB11 F8.out).mono ?_
      rintro e w12 ⟨rfl, HB12⟩
      go_wp2
      go_ret
      exact ⟨rfl, HB12.out⟩
    · obtain ⟨c1, hc1⟩ : ∃ c, c = sgn (Y - Z) := ⟨_, rfl⟩
      have hc10 : c1 ≤ 0 := by rw [hc1]; exact sgn_le (by omega)
      obtain ⟨c2, hc2⟩ : ∃ c, c = sgn (X - Z) := ⟨_, rfl⟩
      have hc20 : c2 ≤ 0 := by rw [hc2]; exact sgn_le (by omega)
      have F9 : Hid (cmpS y.data.toList z.data.toList = c1) := (cmp_is IY IZ (BY.limit (by decide)) (BZ.limit (by decide))).trans hc1.symm
      have F10 : Hid (cmpS x.data.toList z.data.toList = c2) := (cmp_is IX IZ (BX.limit (by decide)) (BZ.limit (by decide))).trans hc2.symm
      clear hZ hc1 hc2 BX BZ IX IZ HX HZ HY I_d b_d I_xz b_xz I_yz b_yz BY IY hXY
      go_wp2_with fail
      refine (cmp_to (-1) HB4 F1.out).mono ?_
      rintro e w5 ⟨rfl, HB5⟩
      go_wp2_with fail
      refine (sub_to d 0 HT HB5 F2.out).mono ?_
      rintro e w6 ⟨rfl, HB6⟩
      go_wp2_with fail
      refine (add_to xz 0 HT HB6 F3.out).mono ?_
      rintro e w7 ⟨rfl, HB7⟩
      go_wp2_with fail
      refine (add_to yz 0 HT HB7 F4.out).mono ?_
      rintro e w8 ⟨rfl, HB8⟩
      go_wp2_with fail
      refine (cmp_to (1) HB8 F5.out).mono ?_
      rintro e w9 ⟨rfl, HB9⟩
      go_wp2_with fail
      refine (cmp_to (-1) HB9 F6.out).mono ?_
      rintro e w10 ⟨rfl, HB10⟩
      go_wp2_with fail
      refine (cmp_to (-1) HB10 F7.out).mono ?_
      rintro e w11 ⟨rfl, HB11⟩
      go_wp2_with fail
      refine (cmp_to c1 HB11 F9.out).mono ?_
      rintro e w12 ⟨rfl, HB12⟩
      go_wp2_with fail
      refine (cmp_to c2 HB12 F10.out).mono ?_
      rintro e w13 ⟨rfl, HB13⟩
      go_wp2
      go_ret
      exact ⟨rfl, HB13.out⟩
  · subst hXY
    obtain rfl : x = y := (Is.inj IX IY).2 rfl
    obtain ⟨d, I_d⟩ := Is.exists (X - X)
    have b_d : (X - X).natAbs < limit := (BX.sub BX).limit (by decide)
    obtain ⟨xz, I_xz⟩ := Is.exists (X + Z)
    have b_xz : (X + Z).natAbs < limit := (BX.add BZ).limit (by decide)
    have F11 : Hid (cmpS x.data.toList x.data.toList = 0) := (cmp_is IX IX (BX.limit (by decide)) (BX.limit (by decide))).trans (sgn_eq (by omega))
    have F12 : Hid (subS x.data.toList x.data.toList = (d.data.toList, 0)) := sub_is IX IX I_d (BX.limit (by decide)) (BX.limit (by decide)) b_d rfl
    have F13 : Hid (addS x.data.toList z.data.toList = (xz.data.toList, 0)) := add_is IX IZ I_xz (BX.limit (by decide)) (BZ.limit (by decide)) b_xz rfl
    have F14 : Hid (cmpS x.data.toList x.data.toList = 0) := (cmp_is IX IX (BX.limit (by decide)) (BX.limit (by decide))).trans (sgn_eq (by omega))
    have F15 : Hid (cmpS d.data.toList (⟨#[48]⟩ : ByteArray).data.toList = 0) := (cmp_is I_d Is.zero b_d (small_limit (by decide))).trans (sgn_eq (by omega))
    have F16 : Hid (cmpS xz.data.toList xz.data.toList = 0) := (cmp_is I_xz I_xz b_xz b_xz).trans (sgn_eq (by omega))
    by_cases hZ : Z < X
    · have F17 : Hid (cmpS x.data.toList z.data.toList = 1) := (cmp_is IX IZ (BX.limit (by decide)) (BZ.limit (by decide))).trans (sgn_gt (by omega))
      clear hZ BX BZ IX IZ HX HZ HY I_d b_d I_xz b_xz BY IY
      go_wp2_with fail
      refine (cmp_to (0) HB4 F11.out).mono ?_
      rintro e w5 ⟨rfl, HB5⟩
      go_wp2_with fail
      refine (sub_to d 0 HT HB5 F12.out).mono ?_
      rintro e w6 ⟨rfl, HB6⟩
      go_wp2_with fail
      refine (add_to xz 0 HT HB6 F13.out).mono ?_
      rintro e w7 ⟨rfl, HB7⟩
      go_wp2_with fail
      refine (add_to xz 0 HT HB7 F13.out).mono ?_
      rintro e w8 ⟨rfl, HB8⟩
      go_wp2_with fail
      refine (cmp_to (0) HB8 F14.out).mono ?_
      rintro e w9 ⟨rfl, HB9⟩
      go_wp2_with fail
      refine (cmp_to (0) HB9 F15.out).mono ?_
      rintro e w10 ⟨rfl, HB10⟩
      go_wp2_with fail
      refine (cmp_to (0) HB10 F16.out).mono ?_
      rintro e w11 ⟨rfl, HB11⟩
      go_wp2_with fail
      refine (cmp_to 1 HB11 F17.out).mono ?_
      rintro e w12 ⟨rfl, HB12⟩
      go_wp2
      go_ret
      exact ⟨rfl, HB12.out⟩
    · obtain ⟨c1, hc1⟩ : ∃ c, c = sgn (X - Z) := ⟨_, rfl⟩
      have hc10 : c1 ≤ 0 := by rw [hc1]; exact sgn_le (by omega)
      obtain ⟨c2, hc2⟩ : ∃ c, c = sgn (X - Z) := ⟨_, rfl⟩
      have hc20 : c2 ≤ 0 := by rw [hc2]; exact sgn_le (by omega)
      have F18 : Hid (cmpS x.data.toList z.data.toList = c1) := (cmp_is IX IZ (BX.limit (by decide)) (BZ.limit (by decide))).trans hc1.symm
      have F19 : Hid (cmpS x.data.toList z.data.toList = c2) := (cmp_is IX IZ (BX.limit (by decide)) (BZ.limit (by decide))).trans hc2.symm
      clear hZ hc1 hc2 BX BZ IX IZ HX HZ HY I_d b_d I_xz b_xz BY IY
      go_wp2_with fail
      refine (cmp_to (0) HB4 F11.out).mono ?_
      rintro e w5 ⟨rfl, HB5⟩
      go_wp2_with fail
      refine (sub_to d 0 HT HB5 F12.out).mono ?_
      rintro e w6 ⟨rfl, HB6⟩
      go_wp2_with fail
      refine (add_to xz 0 HT HB6 F13.out).mono ?_
      rintro e w7 ⟨rfl, HB7⟩
      go_wp2_with fail
      refine (add_to xz 0 HT HB7 F13.out).mono ?_
      rintro e w8 ⟨rfl, HB8⟩
      go_wp2_with fail
      refine (cmp_to (0) HB8 F14.out).mono ?_
      rintro e w9 ⟨rfl, HB9⟩
      go_wp2_with fail
      refine (cmp_to (0) HB9 F15.out).mono ?_
      rintro e w10 ⟨rfl, HB10⟩
      go_wp2_with fail
      refine (cmp_to (0) HB10 F16.out).mono ?_
      rintro e w11 ⟨rfl, HB11⟩
      go_wp2_with fail
      refine (cmp_to c1 HB11 F18.out).mono ?_
      rintro e w12 ⟨rfl, HB12⟩
      go_wp2_with fail
      refine (cmp_to c2 HB12 F19.out).mono ?_
      rintro e w13 ⟨rfl, HB13⟩
      go_wp2
      go_ret
      exact ⟨rfl, HB13.out⟩
  · have hxy : (x.toList == y.toList) = false := toList_ne fun e => by have := (Is.inj IX IY).1 e; omega
    obtain ⟨d, I_d⟩ := Is.exists (X - Y)
    have b_d : (X - Y).natAbs < limit := (BX.sub BY).limit (by decide)
    obtain ⟨xz, I_xz⟩ := Is.exists (X + Z)
    have b_xz : (X + Z).natAbs < limit := (BX.add BZ).limit (by decide)
    obtain ⟨yz, I_yz⟩ := Is.exists (Y + Z)
    have b_yz : (Y + Z).natAbs < limit := (BY.add BZ).limit (by decide)
    have F20 : Hid (cmpS x.data.toList y.data.toList = 1) := (cmp_is IX IY (BX.limit (by decide)) (BY.limit (by decide))).trans (sgn_gt (by omega))
    have F21 : Hid (subS x.data.toList y.data.toList = (d.data.toList, 0)) := sub_is IX IY I_d (BX.limit (by decide)) (BY.limit (by decide)) b_d rfl
    have F22 : Hid (addS x.data.toList z.data.toList = (xz.data.toList, 0)) := add_is IX IZ I_xz (BX.limit (by decide)) (BZ.limit (by decide)) b_xz rfl
    have F23 : Hid (addS y.data.toList z.data.toList = (yz.data.toList, 0)) := add_is IY IZ I_yz (BY.limit (by decide)) (BZ.limit (by decide)) b_yz rfl
    have F24 : Hid (cmpS y.data.toList x.data.toList = -1) := (cmp_is IY IX (BY.limit (by decide)) (BX.limit (by decide))).trans (sgn_lt (by omega))
    have F25 : Hid (cmpS d.data.toList (⟨#[48]⟩ : ByteArray).data.toList = 1) := (cmp_is I_d Is.zero b_d (small_limit (by decide))).trans (sgn_gt (by omega))
    have F26 : Hid (cmpS xz.data.toList yz.data.toList = 1) := (cmp_is I_xz I_yz b_xz b_yz).trans (sgn_gt (by omega))
    clear BX BZ IX IZ HX HZ HY I_d b_d I_xz b_xz I_yz b_yz BY IY hXY
    go_wp2_with fail
    refine (cmp_to (1) HB4 F20.out).mono ?_
    rintro e w5 ⟨rfl, HB5⟩
    go_wp2_with fail
    refine (sub_to d 0 HT HB5 F21.out).mono ?_
    rintro e w6 ⟨rfl, HB6⟩
    go_wp2_with fail
    refine (add_to xz 0 HT HB6 F22.out).mono ?_
    rintro e w7 ⟨rfl, HB7⟩
    go_wp2_with fail
    refine (add_to yz 0 HT HB7 F23.out).mono ?_
    rintro e w8 ⟨rfl, HB8⟩
    go_wp2_with fail
    refine (cmp_to (-1) HB8 F24.out).mono ?_
    rintro e w9 ⟨rfl, HB9⟩
    go_wp2_with fail
    refine (cmp_to (1) HB9 F25.out).mono ?_
    rintro e w10 ⟨rfl, HB10⟩
    go_wp2_with fail
    refine (cmp_to (1) HB10 F26.out).mono ?_
    rintro e w11 ⟨rfl, HB11⟩
    go_wp2
    go_ret
    exact ⟨rfl, HB11.out⟩

end Go.Proofs.Tryz
