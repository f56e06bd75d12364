/- IntegerCommon returns true: the greatest common divisor divides both, and what is left has none. -/
import Derived.Test.YtdjnkaeggnkgeaaGreatDoorEqs
namespace Go.Proofs.Tryz
open Go.RowKit Go.Shelf Go.Proofs.Dt

theorem gcd_bd {k : Nat} {x y : Int} (hx : Bd k x) (hy : Bd k y) : Bd k (Int.gcd x y : Int) := by
  unfold Bd at *
  rw [Int.natAbs_natCast]
  rcases Classical.em (x = 0) with e | e
  · subst e; rw [Int.gcd_zero_left]; exact hy
  · have := Int.gcd_le_natAbs_left y e; omega
theorem gcd_pos' {x y : Int} (h : ¬ (x = 0 ∧ y = 0)) : 0 < (Int.gcd x y : Int) := by
  have : Int.gcd x y ≠ 0 := fun e => h (Int.gcd_eq_zero_iff.1 e)
  omega
theorem gcd_left {x y : Int} : x % (Int.gcd x y : Int) = 0 := Int.emod_eq_zero_of_dvd (Int.gcd_dvd_left ..)
theorem gcd_right {x y : Int} : y % (Int.gcd x y : Int) = 0 := Int.emod_eq_zero_of_dvd (Int.gcd_dvd_right ..)
theorem gcd_rest {x y : Int} (h : 0 < (Int.gcd x y : Int)) : (Int.gcd (x / (Int.gcd x y : Int)) (y / (Int.gcd x y : Int)) : Int) = 1 := by
  rw [Int.gcd_ediv_gcd_ediv_gcd (by omega)]; rfl
theorem gcd_times_pos {x y z : Int} (h : 0 ≤ z) : (Int.gcd (x * z) (y * z) : Int) = (Int.gcd x y : Int) * z := by
  rw [Int.gcd_mul_right, Int.natCast_mul, Int.natAbs_of_nonneg h]
theorem gcd_times_neg {x y z : Int} (h : z < 0) : (Int.gcd (x * z) (y * z) : Int) = 0 - (Int.gcd x y : Int) * z := by
  rw [Int.gcd_mul_right, Int.natCast_mul, show ((z.natAbs : Nat) : Int) = -z by omega, Int.mul_neg]; omega

set_option maxHeartbeats 4000000 in
set_option maxRecDepth 100000 in
theorem common_any (a b c : ByteArray) (w : World) (ht : Tab w) : Calls Tryz.prog 5 #[(.string a), (.string b), (.string c)] w fun e w' => e = .returned (.bool true) ∧ Below w.heap.size w w' := by
  have HT := Lib.hid ht
  have HB0 := Since.refl w
  clear ht
  go_enter Tryz.func5, Tryz.ntmps5
  go_wp2_with fail
  refine (sane_any _ (HB0.tab HT)).mono ?_
  rintro e w1 ⟨rfl, hb1⟩
  have HB1 : Since w w1 := HB0.next hb1
  clear hb1
  go_wp2_with fail
  refine (made_to 40 (by decide) rfl HB1).mono ?_
  rintro e w2 ⟨x, X, rfl, HX, HB2⟩
  have BX := HX.out.2
  have IX : Is x X := HX.out.1
  go_wp2_with fail
  refine (made_to 40 (by decide) rfl HB2).mono ?_
  rintro e w3 ⟨y, Y, rfl, HY, HB3⟩
  have BY := HY.out.2
  have IY : Is y Y := HY.out.1
  go_wp2_with fail
  refine (made_to 40 (by decide) rfl HB3).mono ?_
  rintro e w4 ⟨z, Z, rfl, HZ, HB4⟩
  have BZ := HZ.out.2
  have IZ : Is z Z := HZ.out.1
  have BG := gcd_bd BX BY
  obtain ⟨g, I_g⟩ := Is.exists ((Int.gcd X Y : Int))
  have b_g : ((Int.gcd X Y : Int)).natAbs < limit := BG.limit (by decide)
  have F1 : Hid (gcdS x.data.toList y.data.toList = (g.data.toList, 0)) := gcd_is IX IY I_g (BX.limit (by decide)) (BY.limit (by decide)) rfl
  have F2 : Hid (gcdS y.data.toList x.data.toList = (g.data.toList, 0)) := gcd_is IY IX I_g (BY.limit (by decide)) (BX.limit (by decide)) (by rw [Int.gcd_comm])
  obtain ⟨c0, hc⟩ : ∃ c, c = sgn ((Int.gcd X Y : Int) - 0) := ⟨_, rfl⟩
  have hc0 : 0 ≤ c0 := by rw [hc]; unfold sgn; rw [if_neg (by omega)]; split <;> decide
  have F3 : Hid (cmpS g.data.toList (⟨#[48]⟩ : ByteArray).data.toList = c0) := (cmp_is I_g Is.zero b_g (small_limit (by decide))).trans hc.symm
  clear hc
  go_wp2_with fail
  refine (gcd_to g 0 HT HB4 F1.out).mono ?_
  rintro e w5 ⟨rfl, HB5⟩
  go_wp2_with fail
  refine (gcd_to g 0 HT HB5 F2.out).mono ?_
  rintro e w6 ⟨rfl, HB6⟩
  go_wp2_with fail
  refine (cmp_to c0 HB6 F3.out).mono ?_
  rintro e w7 ⟨rfl, HB7⟩
  by_cases hXY : X = 0 ∧ Y = 0
  · obtain ⟨rfl, rfl⟩ := hXY
    obtain rfl : x = (⟨#[48]⟩ : ByteArray) := (Is.inj IX Is.zero).2 rfl
    obtain rfl : y = (⟨#[48]⟩ : ByteArray) := (Is.inj IY Is.zero).2 rfl
    obtain rfl : g = (⟨#[48]⟩ : ByteArray) := (Is.inj I_g Is.zero).2 rfl
    clear BX BY BZ BG IX IY IZ HX HY HZ I_g b_g
    go_wp2
    go_ret
    exact ⟨rfl, HB7.out⟩
  · have hG := gcd_pos' hXY
    have hxy : (x.toList == [48]) = false ∨ (x = (⟨#[48]⟩ : ByteArray) ∧ (y.toList == [48]) = false) := by
      by_cases h : X = 0
      · exact .inr ⟨(Is.inj IX Is.zero).2 h, toList_ne_zero fun e => hXY ⟨h, (Is.inj IY Is.zero).1 e⟩⟩
      · exact .inl (toList_ne_zero fun e => h ((Is.inj IX Is.zero).1 e))
    obtain ⟨p, I_p⟩ := Is.exists (X / (Int.gcd X Y : Int))
    have b_p : (X / (Int.gcd X Y : Int)).natAbs < limit := (BX.div _).limit (by decide)
    obtain ⟨q, I_q⟩ := Is.exists (Y / (Int.gcd X Y : Int))
    have b_q : (Y / (Int.gcd X Y : Int)).natAbs < limit := (BY.div _).limit (by decide)
    obtain ⟨xz, I_xz⟩ := Is.exists (X * Z)
    have b_xz : (X * Z).natAbs < limit := (BX.mul BZ).limit (by decide)
    obtain ⟨yz, I_yz⟩ := Is.exists (Y * Z)
    have b_yz : (Y * Z).natAbs < limit := (BY.mul BZ).limit (by decide)
    obtain ⟨gz, I_gz⟩ := Is.exists ((Int.gcd X Y : Int) * Z)
    have b_gz : ((Int.gcd X Y : Int) * Z).natAbs < limit := (BG.mul BZ).limit (by decide)
    have F4 : Hid (divS x.data.toList g.data.toList = (p.data.toList, (⟨#[48]⟩ : ByteArray).data.toList, 0)) := div_is IX I_g I_p Is.zero (BX.limit (by decide)) b_g (by omega) rfl gcd_left
    have F5 : Hid (divS y.data.toList g.data.toList = (q.data.toList, (⟨#[48]⟩ : ByteArray).data.toList, 0)) := div_is IY I_g I_q Is.zero (BY.limit (by decide)) b_g (by omega) rfl gcd_right
    have F6 : Hid (gcdS p.data.toList q.data.toList = ((⟨#[49]⟩ : ByteArray).data.toList, 0)) := gcd_is I_p I_q Is.one b_p b_q (gcd_rest hG)
    have F7 : Hid (mulS x.data.toList z.data.toList = (xz.data.toList, 0)) := mul_is IX IZ I_xz (BX.limit (by decide)) (BZ.limit (by decide)) b_xz rfl
    have F8 : Hid (mulS y.data.toList z.data.toList = (yz.data.toList, 0)) := mul_is IY IZ I_yz (BY.limit (by decide)) (BZ.limit (by decide)) b_yz rfl
    by_cases hZ : Z < 0
    · have hA := gcd_times_neg (x := X) (y := Y) hZ
      have hgz : (Int.gcd X Y : Int) * Z < 0 := Int.mul_neg_of_pos_of_neg hG hZ
      obtain ⟨al, I_al⟩ := Is.exists (0 - (Int.gcd X Y : Int) * Z)
      have b_al : (0 - (Int.gcd X Y : Int) * Z).natAbs < limit := by omega
      have F9 : Hid (gcdS xz.data.toList yz.data.toList = (al.data.toList, 0)) := gcd_is I_xz I_yz I_al b_xz b_yz hA
      have F10 : Hid (mulS g.data.toList z.data.toList = (gz.data.toList, 0)) := mul_is I_g IZ I_gz b_g (BZ.limit (by decide)) b_gz rfl
      have F11 : Hid (cmpS gz.data.toList (⟨#[48]⟩ : ByteArray).data.toList = -1) := (cmp_is I_gz Is.zero b_gz (small_limit (by decide))).trans (by unfold sgn; rw [if_pos (by omega)])
      have F12 : Hid (subS (⟨#[48]⟩ : ByteArray).data.toList gz.data.toList = (al.data.toList, 0)) := sub_is Is.zero I_gz I_al (small_limit (by decide)) b_gz b_al rfl
      clear I_g b_g I_p b_p I_q b_q I_xz b_xz I_yz b_yz I_gz b_gz BX BY BZ BG IX IY IZ HX HY HZ hXY hG I_al b_al hgz hA hZ
      rcases hxy with hxy | ⟨rfl, hxy⟩
      · go_wp2_with fail
        refine (div_to p (⟨#[48]⟩ : ByteArray) 0 HT HB7 F4.out).mono ?_
        rintro e w8 ⟨rfl, HB8⟩
        go_wp2_with fail
        refine (div_to q (⟨#[48]⟩ : ByteArray) 0 HT HB8 F5.out).mono ?_
        rintro e w9 ⟨rfl, HB9⟩
        go_wp2_with fail
        refine (gcd_to (⟨#[49]⟩ : ByteArray) 0 HT HB9 F6.out).mono ?_
        rintro e w10 ⟨rfl, HB10⟩
        go_wp2_with fail
        refine (mul_to xz 0 HT HB10 F7.out).mono ?_
        rintro e w11 ⟨rfl, HB11⟩
        go_wp2_with fail
        refine (mul_to yz 0 HT HB11 F8.out).mono ?_
        rintro e w12 ⟨rfl, HB12⟩
        go_wp2_with fail
        refine (gcd_to al 0 HT HB12 F9.out).mono ?_
        rintro e w13 ⟨rfl, HB13⟩
        go_wp2_with fail
        refine (mul_to gz 0 HT HB13 F10.out).mono ?_
        rintro e w14 ⟨rfl, HB14⟩
        go_wp2_with fail
        refine (cmp_to (-1) HB14 F11.out).mono ?_
        rintro e w15 ⟨rfl, HB15⟩
        go_wp2_with fail
        refine (sub_to al 0 HT HB15 F12.out).mono ?_
        rintro e w16 ⟨rfl, HB16⟩
        go_wp2
        go_ret
        exact ⟨rfl, HB16.out⟩
      · go_wp2_with fail
        refine (div_to p (⟨#[48]⟩ : ByteArray) 0 HT HB7 F4.out).mono ?_
        rintro e w8 ⟨rfl, HB8⟩
        go_wp2_with fail
        refine (div_to q (⟨#[48]⟩ : ByteArray) 0 HT HB8 F5.out).mono ?_
        rintro e w9 ⟨rfl, HB9⟩
        go_wp2_with fail
        refine (gcd_to (⟨#[49]⟩ : ByteArray) 0 HT HB9 F6.out).mono ?_
        rintro e w10 ⟨rfl, HB10⟩
        go_wp2_with fail
        refine (mul_to xz 0 HT HB10 F7.out).mono ?_
        rintro e w11 ⟨rfl, HB11⟩
        go_wp2_with fail
        refine (mul_to yz 0 HT HB11 F8.out).mono ?_
        rintro e w12 ⟨rfl, HB12⟩
        go_wp2_with fail
        refine (gcd_to al 0 HT HB12 F9.out).mono ?_
        rintro e w13 ⟨rfl, HB13⟩
        go_wp2_with fail
        refine (mul_to gz 0 HT HB13 F10.out).mono ?_
        rintro e w14 ⟨rfl, HB14⟩
        go_wp2_with fail
        refine (cmp_to (-1) HB14 F11.out).mono ?_
        rintro e w15 ⟨rfl, HB15⟩
        go_wp2_with fail
        refine (sub_to al 0 HT HB15 F12.out).mono ?_
        rintro e w16 ⟨rfl, HB16⟩
        go_wp2
        go_ret
        exact ⟨rfl, HB16.out⟩
    · have hA := gcd_times_pos (x := X) (y := Y) (z := Z) (by omega)
      have hgz : 0 ≤ (Int.gcd X Y : Int) * Z := Int.mul_nonneg (by omega) (by omega)
      have F13 : Hid (gcdS xz.data.toList yz.data.toList = (gz.data.toList, 0)) := gcd_is I_xz I_yz I_gz b_xz b_yz hA
      have F14 : Hid (mulS g.data.toList z.data.toList = (gz.data.toList, 0)) := mul_is I_g IZ I_gz b_g (BZ.limit (by decide)) b_gz rfl
      obtain ⟨c1, hc⟩ : ∃ c, c = sgn ((Int.gcd X Y : Int) * Z - 0) := ⟨_, rfl⟩
      have hc1 : 0 ≤ c1 := by rw [hc]; unfold sgn; rw [if_neg (by omega)]; split <;> decide
      have F15 : Hid (cmpS gz.data.toList (⟨#[48]⟩ : ByteArray).data.toList = c1) := (cmp_is I_gz Is.zero b_gz (small_limit (by decide))).trans hc.symm
      clear I_g b_g I_p b_p I_q b_q I_xz b_xz I_yz b_yz I_gz b_gz BX BY BZ BG IX IY IZ HX HY HZ hXY hG hc hgz hA hZ
      rcases hxy with hxy | ⟨rfl, hxy⟩
      · go_wp2_with fail
        refine (div_to p (⟨#[48]⟩ : ByteArray) 0 HT HB7 F4.out).mono ?_
        rintro e w8 ⟨rfl, HB8⟩
        go_wp2_with fail
        refine (div_to q (⟨#[48]⟩ : ByteArray) 0 HT HB8 F5.out).mono ?_
        rintro e w9 ⟨rfl, HB9⟩
        go_wp2_with fail
        refine (gcd_to (⟨#[49]⟩ : ByteArray) 0 HT HB9 F6.out).mono ?_
        rintro e w10 ⟨rfl, HB10⟩
        go_wp2_with fail
        refine (mul_to xz 0 HT HB10 F7.out).mono ?_
        rintro e w11 ⟨rfl, HB11⟩
        go_wp2_with fail
        refine (mul_to yz 0 HT HB11 F8.out).mono ?_
        rintro e w12 ⟨rfl, HB12⟩
        go_wp2_with fail
        refine (gcd_to gz 0 HT HB12 F13.out).mono ?_
        rintro e w13 ⟨rfl, HB13⟩
        go_wp2_with fail
        refine (mul_to gz 0 HT HB13 F14.out).mono ?_
        rintro e w14 ⟨rfl, HB14⟩
        go_wp2_with fail
        refine (cmp_to c1 HB14 F15.out).mono ?_
        rintro e w15 ⟨rfl, HB15⟩
        go_wp2
        go_ret
        exact ⟨rfl, HB15.out⟩
      · go_wp2_with fail
        refine (div_to p (⟨#[48]⟩ : ByteArray) 0 HT HB7 F4.out).mono ?_
        rintro e w8 ⟨rfl, HB8⟩
        go_wp2_with fail
        refine (div_to q (⟨#[48]⟩ : ByteArray) 0 HT HB8 F5.out).mono ?_
        rintro e w9 ⟨rfl, HB9⟩
        go_wp2_with fail
        refine (gcd_to (⟨#[49]⟩ : ByteArray) 0 HT HB9 F6.out).mono ?_
        rintro e w10 ⟨rfl, HB10⟩
        go_wp2_with fail
        refine (mul_to xz 0 HT HB10 F7.out).mono ?_
        rintro e w11 ⟨rfl, HB11⟩
        go_wp2_with fail
        refine (mul_to yz 0 HT HB11 F8.out).mono ?_
        rintro e w12 ⟨rfl, HB12⟩
        go_wp2_with fail
        refine (gcd_to gz 0 HT HB12 F13.out).mono ?_
        rintro e w13 ⟨rfl, HB13⟩
        go_wp2_with fail
        refine (mul_to gz 0 HT HB13 F14.out).mono ?_
        rintro e w14 ⟨rfl, HB14⟩
        go_wp2_with fail
        refine (cmp_to c1 HB14 F15.out).mono ?_
        rintro e w15 ⟨rfl, HB15⟩
        go_wp2
        go_ret
        exact ⟨rfl, HB15.out⟩

end Go.Proofs.Tryz
