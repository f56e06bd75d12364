/- IntegerRing returns true: sums and products are commutative, associative, distributive. -/
import Derived.Test.YtdjnkaeggnkgeaaGreatDoorIs
namespace Go.Proofs.Tryz
open Go.RowKit Go.Shelf Go.Proofs.Dt

set_option maxHeartbeats 4000000 in
set_option maxRecDepth 100000 in
theorem ring_any (a b c : ByteArray) (w : World) (ht : Tab w) : Calls Tryz.prog 3 #[.string a, .string b, .string c] w fun e w' => e = .returned (.bool true) ∧ Below w.heap.size w w' := by
  have HT := Lib.hid ht
  have HB0 := Since.refl w
  clear ht
  go_enter Tryz.func3, Tryz.ntmps3
  go_wp2_with fail
  refine (sane_any _ (HB0.tab HT)).mono ?_
  rintro e w1 ⟨rfl, hb1⟩
  have HB1 : Since w w1 := HB0.next hb1
  clear hb1
  go_wp2_with fail
  refine (made_to 60 (by decide) rfl HB1).mono ?_
  rintro e w2 ⟨x, X, rfl, HX, HB2⟩
  go_wp2_with fail
  refine (made_to 60 (by decide) rfl HB2).mono ?_
  rintro e w3 ⟨y, Y, rfl, HY, HB3⟩
  go_wp2_with fail
  refine (made_to 60 (by decide) rfl HB3).mono ?_
  rintro e w4 ⟨z, Z, rfl, HZ, HB4⟩
  have BX := HX.out.2
  have BY := HY.out.2
  have BZ := HZ.out.2
  obtain ⟨s_xy, i_xy⟩ := Is.exists (X + Y)
  have b_xy : (X + Y).natAbs < limit := (BX.add BY).limit (by decide)
  obtain ⟨s_xyz, i_xyz⟩ := Is.exists (X + Y + Z)
  have b_xyz : (X + Y + Z).natAbs < limit := ((BX.add BY).add (BZ.mono (by decide))).limit (by decide)
  obtain ⟨s_yz, i_yz⟩ := Is.exists (Y + Z)
  have b_yz : (Y + Z).natAbs < limit := (BY.add BZ).limit (by decide)
  obtain ⟨s_p, i_p⟩ := Is.exists (X * Y)
  have b_p : (X * Y).natAbs < limit := (BX.mul BY).limit (by decide)
  obtain ⟨s_pz, i_pz⟩ := Is.exists (X * Y * Z)
  have b_pz : (X * Y * Z).natAbs < limit := ((BX.mul BY).mul BZ).limit (by decide)
  obtain ⟨s_r, i_r⟩ := Is.exists (Y * Z)
  have b_r : (Y * Z).natAbs < limit := (BY.mul BZ).limit (by decide)
  obtain ⟨s_lf, i_lf⟩ := Is.exists ((X + Y) * Z)
  have b_lf : ((X + Y) * Z).natAbs < limit := ((BX.add BY).mul BZ).limit (by decide)
  obtain ⟨s_xz, i_xz⟩ := Is.exists (X * Z)
  have b_xz : (X * Z).natAbs < limit := (BX.mul BZ).limit (by decide)
  obtain ⟨s_d, i_d⟩ := Is.exists (X - Y)
  have b_d : (X - Y).natAbs < limit := (BX.sub BY).limit (by decide)
  have F0 : Hid (addS x.data.toList y.data.toList = (s_xy.data.toList, 0)) := add_is HX.out.1 HY.out.1 i_xy (BX.limit (by decide)) (BY.limit (by decide)) b_xy (by grind)
  have F1 : Hid (addS y.data.toList x.data.toList = (s_xy.data.toList, 0)) := add_is HY.out.1 HX.out.1 i_xy (BY.limit (by decide)) (BX.limit (by decide)) b_xy (by grind)
  have F2 : Hid (addS s_xy.data.toList z.data.toList = (s_xyz.data.toList, 0)) := add_is i_xy HZ.out.1 i_xyz b_xy (BZ.limit (by decide)) b_xyz (by grind)
  have F3 : Hid (addS y.data.toList z.data.toList = (s_yz.data.toList, 0)) := add_is HY.out.1 HZ.out.1 i_yz (BY.limit (by decide)) (BZ.limit (by decide)) b_yz (by grind)
  have F4 : Hid (addS x.data.toList s_yz.data.toList = (s_xyz.data.toList, 0)) := add_is HX.out.1 i_yz i_xyz (BX.limit (by decide)) b_yz b_xyz (by grind)
  have F5 : Hid (mulS x.data.toList y.data.toList = (s_p.data.toList, 0)) := mul_is HX.out.1 HY.out.1 i_p (BX.limit (by decide)) (BY.limit (by decide)) b_p (by grind)
  have F6 : Hid (mulS y.data.toList x.data.toList = (s_p.data.toList, 0)) := mul_is HY.out.1 HX.out.1 i_p (BY.limit (by decide)) (BX.limit (by decide)) b_p (by grind)
  have F7 : Hid (mulS s_p.data.toList z.data.toList = (s_pz.data.toList, 0)) := mul_is i_p HZ.out.1 i_pz b_p (BZ.limit (by decide)) b_pz (by grind)
  have F8 : Hid (mulS y.data.toList z.data.toList = (s_r.data.toList, 0)) := mul_is HY.out.1 HZ.out.1 i_r (BY.limit (by decide)) (BZ.limit (by decide)) b_r (by grind)
  have F9 : Hid (mulS x.data.toList s_r.data.toList = (s_pz.data.toList, 0)) := mul_is HX.out.1 i_r i_pz (BX.limit (by decide)) b_r b_pz (by grind)
  have F10 : Hid (mulS s_xy.data.toList z.data.toList = (s_lf.data.toList, 0)) := mul_is i_xy HZ.out.1 i_lf b_xy (BZ.limit (by decide)) b_lf (by grind)
  have F11 : Hid (mulS x.data.toList z.data.toList = (s_xz.data.toList, 0)) := mul_is HX.out.1 HZ.out.1 i_xz (BX.limit (by decide)) (BZ.limit (by decide)) b_xz (by grind)
  have F12 : Hid (addS s_xz.data.toList s_r.data.toList = (s_lf.data.toList, 0)) := add_is i_xz i_r i_lf b_xz b_r b_lf (by grind)
  have F13 : Hid (subS x.data.toList y.data.toList = (s_d.data.toList, 0)) := sub_is HX.out.1 HY.out.1 i_d (BX.limit (by decide)) (BY.limit (by decide)) b_d (by grind)
  have F14 : Hid (addS s_d.data.toList y.data.toList = (x.data.toList, 0)) := add_is i_d HY.out.1 HX.out.1 b_d (BY.limit (by decide)) (BX.limit (by decide)) (by grind)
  have F15 : Hid (mulS x.data.toList (⟨#[49]⟩ : ByteArray).data.toList = (x.data.toList, 0)) := mul_is HX.out.1 Is.one HX.out.1 (BX.limit (by decide)) (small_limit (by decide)) (BX.limit (by decide)) (by grind)
  have F16 : Hid (mulS x.data.toList (⟨#[48]⟩ : ByteArray).data.toList = ((⟨#[48]⟩ : ByteArray).data.toList, 0)) := mul_is HX.out.1 Is.zero Is.zero (BX.limit (by decide)) (small_limit (by decide)) (small_limit (by decide)) (by grind)
  clear i_xy b_xy i_xyz b_xyz i_yz b_yz i_p b_p i_pz b_pz i_r b_r i_lf b_lf i_xz b_xz i_d b_d BX BY BZ HX HY HZ
  go_wp2_with fail
  refine (add_to s_xy 0 HT HB4 F0.out).mono ?_
  rintro e w5 ⟨rfl, HB5⟩
  go_wp2_with fail
  refine (add_to s_xy 0 HT HB5 F1.out).mono ?_
  rintro e w6 ⟨rfl, HB6⟩
  go_wp2_with fail
  refine (add_to s_xyz 0 HT HB6 F2.out).mono ?_
  rintro e w7 ⟨rfl, HB7⟩
  go_wp2_with fail
  refine (add_to s_yz 0 HT HB7 F3.out).mono ?_
  rintro e w8 ⟨rfl, HB8⟩
  go_wp2_with fail
  refine (add_to s_xyz 0 HT HB8 F4.out).mono ?_
  rintro e w9 ⟨rfl, HB9⟩
  go_wp2_with fail
  refine (mul_to s_p 0 HT HB9 F5.out).mono ?_
  rintro e w10 ⟨rfl, HB10⟩
  go_wp2_with fail
  refine (mul_to s_p 0 HT HB10 F6.out).mono ?_
  rintro e w11 ⟨rfl, HB11⟩
  go_wp2_with fail
  refine (mul_to s_pz 0 HT HB11 F7.out).mono ?_
  rintro e w12 ⟨rfl, HB12⟩
  go_wp2_with fail
  refine (mul_to s_r 0 HT HB12 F8.out).mono ?_
  rintro e w13 ⟨rfl, HB13⟩
  go_wp2_with fail
  refine (mul_to s_pz 0 HT HB13 F9.out).mono ?_
  rintro e w14 ⟨rfl, HB14⟩
  go_wp2_with fail
  refine (mul_to s_lf 0 HT HB14 F10.out).mono ?_
  rintro e w15 ⟨rfl, HB15⟩
  go_wp2_with fail
  refine (mul_to s_xz 0 HT HB15 F11.out).mono ?_
  rintro e w16 ⟨rfl, HB16⟩
  go_wp2_with fail
  refine (add_to s_lf 0 HT HB16 F12.out).mono ?_
  rintro e w17 ⟨rfl, HB17⟩
  go_wp2_with fail
  refine (sub_to s_d 0 HT HB17 F13.out).mono ?_
  rintro e w18 ⟨rfl, HB18⟩
  go_wp2_with fail
  refine (add_to x 0 HT HB18 F14.out).mono ?_
  rintro e w19 ⟨rfl, HB19⟩
  go_wp2_with fail
  refine (mul_to x 0 HT HB19 F15.out).mono ?_
  rintro e w20 ⟨rfl, HB20⟩
  go_wp2_with fail
  refine (mul_to (⟨#[48]⟩ : ByteArray) 0 HT HB20 F16.out).mono ?_
  rintro e w21 ⟨rfl, HB21⟩
  go_wp2
  go_ret
  exact ⟨rfl, HB21.out⟩

end Go.Proofs.Tryz
