/- IntegerLimits returns true: results of more than 200 digits are refused, and no others. -/
import Derived.Test.YtdjnkaeggnkgeaaGreatDoorNines
import Derived.Test.YtdjnkaeggnkgeaaGreatDoorEqs
namespace Go.Proofs.Tryz
open Go.RowKit Go.Shelf Go.Proofs.Dt

theorem limit_big : 10 ^ 6 ≤ limit := Nat.pow_le_pow_right (by decide) (by decide)
theorem most_is : Is (nine 200) ((limit : Int) - 1) := nine_is (by decide)
theorem prod_nat (a b : Nat) (hb : 1 ≤ b) : (a : Int) * (2 * (b : Int) - 1) = ((a * (2 * b - 1) : Nat) : Int) := by
  rw [Int.natCast_mul]; congr 1; omega
theorem prod_lo (p q : Nat) : 10 ^ (p + q) ≤ 10 ^ p * (2 * 10 ^ q - 1) := by
  rw [Nat.pow_add]
  have : 0 < 10 ^ q := Nat.pow_pos (by decide)
  exact Nat.mul_le_mul_left _ (by omega)
theorem prod_hi (p q : Nat) : 10 ^ p * (2 * 10 ^ q - 1) < 10 ^ (p + q + 1) := by
  have h1 : 0 < 10 ^ p := Nat.pow_pos (by decide)
  have h2 : 0 < 10 ^ q := Nat.pow_pos (by decide)
  have h3 : 10 ^ p * (2 * 10 ^ q - 1) ≤ 10 ^ p * (2 * 10 ^ q) := Nat.mul_le_mul_left _ (by omega)
  have h4 : 10 ^ p * (2 * 10 ^ q) = 2 * (10 ^ p * 10 ^ q) := by rw [Nat.mul_left_comm]
  have h5 : 0 < 10 ^ p * 10 ^ q := Nat.mul_pos h1 h2
  rw [Nat.pow_succ, Nat.pow_add]
  omega
theorem prod_is {p q : Nat} : (((10 ^ p : Nat) : Int) * (2 * ((10 ^ q : Nat) : Int) - 1)) = ((10 ^ p * (2 * 10 ^ q - 1) : Nat) : Int) := prod_nat _ _ (Nat.pow_pos (by decide))
theorem prod_fits {p q : Nat} (h : p + q < 200) : (((10 ^ p : Nat) : Int) * (2 * ((10 ^ q : Nat) : Int) - 1)).natAbs < limit := by
  rw [prod_is, Int.natAbs_natCast]
  exact Nat.lt_of_lt_of_le (prod_hi p q) (Nat.pow_le_pow_right (by decide) (by omega))
theorem prod_not {p q : Nat} (h : ¬ p + q < 200) : ¬ (((10 ^ p : Nat) : Int) * (2 * ((10 ^ q : Nat) : Int) - 1)).natAbs < limit := by
  rw [prod_is, Int.natAbs_natCast]
  have h1 := prod_lo p q
  have h2 : limit ≤ 10 ^ (p + q) := Nat.pow_le_pow_right (by decide) (by omega)
  omega
theorem prod_len {p q : Nat} {x : ByteArray} (hx : Is x (((10 ^ p : Nat) : Int) * (2 * ((10 ^ q : Nat) : Int) - 1))) : x.size = p + q + 1 := by
  have e : x.size = (str (((10 ^ p : Nat) : Int) * (2 * ((10 ^ q : Nat) : Int) - 1))).length := by rw [← hx.list]; rfl
  rw [prod_is, str_nonneg (by omega), Int.toNat_natCast] at e
  have h1 := (decDigits_length_le (10 ^ p * (2 * 10 ^ q - 1)) (p + q + 1) (by omega)).2 (prod_hi p q)
  have h3 := decDigits_ne (10 ^ p * (2 * 10 ^ q - 1))
  have h4 : 0 < (Go.Lib.decDigits (10 ^ p * (2 * 10 ^ q - 1))).length := List.length_pos_iff.2 h3
  rcases Nat.eq_zero_or_pos (p + q) with h | h
  · omega
  · have h2 := (decDigits_length_le (10 ^ p * (2 * 10 ^ q - 1)) (p + q) h).1
    have := prod_lo p q
    omega
theorem ten_fits {p : Nat} (h : p < 200) : ((10 ^ p : Nat) : Int).natAbs < limit := by
  rw [Int.natAbs_natCast]; exact Nat.pow_lt_pow_right (by decide) h
theorem ten_pred {p : Nat} (h : p < 200) : (((10 ^ p : Nat) : Int) - 1).natAbs < limit := by
  have h1 : 10 ^ p < limit := Nat.pow_lt_pow_right (by decide) h
  have h2 : 0 < 10 ^ p := Nat.pow_pos (by decide)
  generalize 10 ^ p = a at h1 h2
  omega
theorem two_fits {q : Nat} (h : q < 200) : (2 * ((10 ^ q : Nat) : Int) - 1).natAbs < limit := by
  have h1 : (10 : Nat) ^ q * 10 ≤ limit := by rw [← Nat.pow_succ]; exact Nat.pow_le_pow_right (by decide) (by omega)
  have h2 : 0 < 10 ^ q := Nat.pow_pos (by decide)
  generalize 10 ^ q = b at h1 h2
  omega

set_option maxHeartbeats 4000000 in
set_option maxRecDepth 100000 in
theorem limits_any (a : ByteArray) (m n : Int) (hm : -9223372036854775808 ≤ m ∧ m ≤ 9223372036854775807) (hn : -9223372036854775808 ≤ n ∧ n ≤ 9223372036854775807) (w : World) (ht : Tab w) : Calls Tryz.prog 8 #[(.string a), (.int .i64 m), (.int .i64 n)] w fun e w' => e = .returned (.bool true) ∧ Below w.heap.size w w' := by
  have HM := Lib.hid hm
  have HN := Lib.hid hn
  clear hm hn
  have hl := limit_big
  have hs200 := nine_size 200
  have HT := Lib.hid ht
  have HB0 := Since.refl w
  clear ht
  go_enter Tryz.func8, Tryz.ntmps8
  go_wp2_with fail
  refine (sane_any _ (HB0.tab HT)).mono ?_
  rintro e w1 ⟨rfl, hb1⟩
  have HB1 : Since w w1 := HB0.next hb1
  clear hb1
  go_wp2_with fail
  refine (made_to 5 (by decide) rfl HB1).mono ?_
  rintro e w2 ⟨x, X, rfl, HX, HB2⟩
  have BX := HX.out.2
  have IX : Is x X := HX.out.1
  have hX5 : X.natAbs < 10 ^ 5 := BX
  by_cases hX : 0 < X
  · have F1 : Hid (addS (nine 200).data.toList x.data.toList = ([], 30)) := by show _ = _; rw [most_is.list, IX.list]; exact addS_no (by omega) (BX.limit (by decide)) (by omega)
    have F2 : Hid (subS ((⟨#[45]⟩ : ByteArray) ++ nine 200).data.toList x.data.toList = ([], 30)) := by show _ = _; rw [minus_is.list, IX.list]; exact subS_no (by omega) (BX.limit (by decide)) (by omega)
    have F3 : Hid (cmpS x.data.toList (⟨#[48]⟩ : ByteArray).data.toList = 1) := (cmp_is IX Is.zero (BX.limit (by decide)) (small_limit (by decide))).trans (by unfold sgn; rw [if_neg (by omega), if_pos (by omega)])
    have FV0 : Hid (valid (nine 200 ++ (⟨#[57]⟩ : ByteArray)).data.toList = false) := by show _ = _; rw [nine_next]; exact nine_long
    have FV1 : Hid (valid ((⟨#[45]⟩ : ByteArray) ++ nine 200).data.toList = true) := valid_is minus_is (by omega)
    clear hX hX5 IX BX HX hl
    go_wp2_with fail
    refine (nines_any 200 (by decide) _).mono ?_
    rintro e w3 ⟨rfl, rfl⟩
    have HB3 := HB2
    go_wp2_with fail
    refine (add_to (⟨#[]⟩ : ByteArray) 30 HT HB3 F1.out).mono ?_
    rintro e w4 ⟨rfl, HB4⟩
    go_wp2_with fail
    refine (sub_to (⟨#[]⟩ : ByteArray) 30 HT HB4 F2.out).mono ?_
    rintro e w5 ⟨rfl, HB5⟩
    go_wp2_with fail
    refine (pick_any m HM.out.1 HM.out.2 _).mono ?_
    rintro e w6 ⟨⟨p, hp, rfl⟩, rfl⟩
    have HB6 := HB5
    go_wp2_with fail
    refine (pick_any n HN.out.1 HN.out.2 _).mono ?_
    rintro e w7 ⟨⟨q, hq, rfl⟩, rfl⟩
    have HB7 := HB6
    have hsq := nine_size q
    by_cases hp0 : p = 0
    · subst hp0
      have F4 : Hid (addS (nine 0).data.toList [49] = ([], 30)) := add_no (by decide)
      have F5 : Hid (addS [48] [49] = ([49], 0)) := add_lit _ (by decide) (by decide) (by decide) (by decide)
      have I_tw := one_is q
      have b_tw := two_fits hq
      go_wp2_with fail
      refine (nines_any 0 (by decide) _).mono ?_
      rintro e w8 ⟨rfl, rfl⟩
      have HB8 := HB7
      go_wp2_with fail
      refine (add_to (⟨#[]⟩ : ByteArray) 30 HT HB8 F4.out).mono ?_
      rintro e w9 ⟨rfl, HB9⟩
      go_wp2_with fail
      refine (add_to (⟨#[49]⟩ : ByteArray) 0 HT HB9 F5.out).mono ?_
      rintro e w10 ⟨rfl, HB10⟩
      go_wp2_with fail
      refine (nines_any q (by omega) _).mono ?_
      rintro e w11 ⟨rfl, rfl⟩
      have HB11 := HB10
      obtain ⟨pr, I_pr⟩ := Is.exists (((10 ^ 0 : Nat) : Int) * (2 * ((10 ^ q : Nat) : Int) - 1))
      have b_pr : (((10 ^ 0 : Nat) : Int) * (2 * ((10 ^ q : Nat) : Int) - 1)).natAbs < limit := prod_fits (by omega)
      have hlen : ((pr.size : Nat) : Int) = (q : Int) + 1 := by rw [prod_len I_pr]; omega
      have F6 : Hid (mulS (⟨#[49]⟩ : ByteArray).data.toList ((⟨#[49]⟩ : ByteArray) ++ nine q).data.toList = (pr.data.toList, 0)) := mul_is Is.one I_tw I_pr (small_limit (by decide)) b_tw b_pr (by rw [Nat.pow_zero]; rfl)
      have hsm : (q : Int) < 200 := by omega
      clear I_tw b_tw I_pr b_pr
      go_wp2_with fail
      refine (mul_to pr 0 HT HB11 F6.out).mono ?_
      rintro e w12 ⟨rfl, HB12⟩
      go_wp2_with fail
      refine (cmp_to (1) HB12 F3.out).mono ?_
      rintro e w13 ⟨rfl, HB13⟩
      go_wp2_with fail
      refine (valid_to false HB13 FV0.out).mono ?_
      rintro e w14 ⟨rfl, HB14⟩
      go_wp2_with fail
      refine (valid_to true HB14 FV1.out).mono ?_
      rintro e w15 ⟨rfl, HB15⟩
      go_wp2
      go_ret
      exact ⟨rfl, HB15.out⟩
    · have hpz : ((p : Int) == 0) = false := by simpa using hp0
      have I_tw := one_is q
      have b_tw := two_fits hq
      obtain ⟨on, I_on⟩ := Is.exists (((10 ^ p : Nat) : Int))
      have b_on : (((10 ^ p : Nat) : Int)).natAbs < limit := ten_fits hp
      have F7 : Hid (addS (nine p).data.toList [49] = (on.data.toList, 0)) := add_is (nine_is (by omega)) Is.one I_on (ten_pred hp) (small_limit (by decide)) b_on (Int.sub_add_cancel ..)
      go_wp2_with fail
      refine (nines_any p (by omega) _).mono ?_
      rintro e w8 ⟨rfl, rfl⟩
      have HB8 := HB7
      go_wp2_with fail
      refine (add_to on 0 HT HB8 F7.out).mono ?_
      rintro e w9 ⟨rfl, HB9⟩
      go_wp2_with fail
      refine (nines_any q (by omega) _).mono ?_
      rintro e w10 ⟨rfl, rfl⟩
      have HB10 := HB9
      by_cases hsm : p + q < 200
      · obtain ⟨pr, I_pr⟩ := Is.exists (((10 ^ p : Nat) : Int) * (2 * ((10 ^ q : Nat) : Int) - 1))
        have b_pr : (((10 ^ p : Nat) : Int) * (2 * ((10 ^ q : Nat) : Int) - 1)).natAbs < limit := prod_fits (by omega)
        have hlen : ((pr.size : Nat) : Int) = (p : Int) + (q : Int) + 1 := by rw [prod_len I_pr]; omega
        have F8 : Hid (mulS on.data.toList ((⟨#[49]⟩ : ByteArray) ++ nine q).data.toList = (pr.data.toList, 0)) := mul_is I_on I_tw I_pr b_on b_tw b_pr rfl
        have hsm : (p : Int) + (q : Int) < 200 := by omega
        clear I_tw b_tw I_pr b_pr I_on b_on hp0
        go_wp2_with fail
        refine (mul_to pr 0 HT HB10 F8.out).mono ?_
        rintro e w11 ⟨rfl, HB11⟩
        go_wp2_with fail
        refine (cmp_to (1) HB11 F3.out).mono ?_
        rintro e w12 ⟨rfl, HB12⟩
        go_wp2_with fail
        refine (valid_to false HB12 FV0.out).mono ?_
        rintro e w13 ⟨rfl, HB13⟩
        go_wp2_with fail
        refine (valid_to true HB13 FV1.out).mono ?_
        rintro e w14 ⟨rfl, HB14⟩
        go_wp2
        go_ret
        exact ⟨rfl, HB14.out⟩
      · have F9 : Hid (mulS on.data.toList ((⟨#[49]⟩ : ByteArray) ++ nine q).data.toList = ([], 30)) := by show _ = _; rw [I_on.list, I_tw.list]; exact mulS_no b_on b_tw (prod_not hsm)
        have hsn : ¬ (p : Int) + (q : Int) < 200 := by omega
        clear I_tw b_tw  I_on b_on hp0
        go_wp2_with fail
        refine (mul_to (⟨#[]⟩ : ByteArray) 30 HT HB10 F9.out).mono ?_
        rintro e w11 ⟨rfl, HB11⟩
        go_wp2_with fail
        refine (cmp_to (1) HB11 F3.out).mono ?_
        rintro e w12 ⟨rfl, HB12⟩
        go_wp2_with fail
        refine (valid_to false HB12 FV0.out).mono ?_
        rintro e w13 ⟨rfl, HB13⟩
        go_wp2_with fail
        refine (valid_to true HB13 FV1.out).mono ?_
        rintro e w14 ⟨rfl, HB14⟩
        go_wp2
        go_ret
        exact ⟨rfl, HB14.out⟩
  · obtain ⟨sm, I_sm⟩ := Is.exists ((limit : Int) - 1 + X)
    have b_sm : ((limit : Int) - 1 + X).natAbs < limit := by omega
    obtain ⟨df, I_df⟩ := Is.exists (-((limit : Int) - 1) - X)
    have b_df : (-((limit : Int) - 1) - X).natAbs < limit := by omega
    have F10 : Hid (addS (nine 200).data.toList x.data.toList = (sm.data.toList, 0)) := add_is most_is IX I_sm (by omega) (BX.limit (by decide)) b_sm rfl
    have F11 : Hid (subS ((⟨#[45]⟩ : ByteArray) ++ nine 200).data.toList x.data.toList = (df.data.toList, 0)) := sub_is minus_is IX I_df (by omega) (BX.limit (by decide)) b_df rfl
    obtain ⟨cx, hcx⟩ : ∃ c, c = sgn (X - 0) := ⟨_, rfl⟩
    have hcx0 : cx ≤ 0 := by
      rw [hcx]; unfold sgn
      split
      · decide
      · rw [if_neg (by omega)]; decide
    have F12 : Hid (cmpS x.data.toList (⟨#[48]⟩ : ByteArray).data.toList = cx) := (cmp_is IX Is.zero (BX.limit (by decide)) (small_limit (by decide))).trans hcx.symm
    clear hcx I_sm b_sm I_df b_df
    have FV0 : Hid (valid (nine 200 ++ (⟨#[57]⟩ : ByteArray)).data.toList = false) := by show _ = _; rw [nine_next]; exact nine_long
    have FV1 : Hid (valid ((⟨#[45]⟩ : ByteArray) ++ nine 200).data.toList = true) := valid_is minus_is (by omega)
    clear hX hX5 IX BX HX hl
    go_wp2_with fail
    refine (nines_any 200 (by decide) _).mono ?_
    rintro e w3 ⟨rfl, rfl⟩
    have HB3 := HB2
    go_wp2_with fail
    refine (add_to sm 0 HT HB3 F10.out).mono ?_
    rintro e w4 ⟨rfl, HB4⟩
    go_wp2_with fail
    refine (sub_to df 0 HT HB4 F11.out).mono ?_
    rintro e w5 ⟨rfl, HB5⟩
    go_wp2_with fail
    refine (pick_any m HM.out.1 HM.out.2 _).mono ?_
    rintro e w6 ⟨⟨p, hp, rfl⟩, rfl⟩
    have HB6 := HB5
    go_wp2_with fail
    refine (pick_any n HN.out.1 HN.out.2 _).mono ?_
    rintro e w7 ⟨⟨q, hq, rfl⟩, rfl⟩
    have HB7 := HB6
    have hsq := nine_size q
    by_cases hp0 : p = 0
    · subst hp0
      have F13 : Hid (addS (nine 0).data.toList [49] = ([], 30)) := add_no (by decide)
      have F14 : Hid (addS [48] [49] = ([49], 0)) := add_lit _ (by decide) (by decide) (by decide) (by decide)
      have I_tw := one_is q
      have b_tw := two_fits hq
      go_wp2_with fail
      refine (nines_any 0 (by decide) _).mono ?_
      rintro e w8 ⟨rfl, rfl⟩
      have HB8 := HB7
      go_wp2_with fail
      refine (add_to (⟨#[]⟩ : ByteArray) 30 HT HB8 F13.out).mono ?_
      rintro e w9 ⟨rfl, HB9⟩
      go_wp2_with fail
      refine (add_to (⟨#[49]⟩ : ByteArray) 0 HT HB9 F14.out).mono ?_
      rintro e w10 ⟨rfl, HB10⟩
      go_wp2_with fail
      refine (nines_any q (by omega) _).mono ?_
      rintro e w11 ⟨rfl, rfl⟩
      have HB11 := HB10
      obtain ⟨pr, I_pr⟩ := Is.exists (((10 ^ 0 : Nat) : Int) * (2 * ((10 ^ q : Nat) : Int) - 1))
      have b_pr : (((10 ^ 0 : Nat) : Int) * (2 * ((10 ^ q : Nat) : Int) - 1)).natAbs < limit := prod_fits (by omega)
      have hlen : ((pr.size : Nat) : Int) = (q : Int) + 1 := by rw [prod_len I_pr]; omega
      have F15 : Hid (mulS (⟨#[49]⟩ : ByteArray).data.toList ((⟨#[49]⟩ : ByteArray) ++ nine q).data.toList = (pr.data.toList, 0)) := mul_is Is.one I_tw I_pr (small_limit (by decide)) b_tw b_pr (by rw [Nat.pow_zero]; rfl)
      have hsm : (q : Int) < 200 := by omega
      clear I_tw b_tw I_pr b_pr
      go_wp2_with fail
      refine (mul_to pr 0 HT HB11 F15.out).mono ?_
      rintro e w12 ⟨rfl, HB12⟩
      go_wp2_with fail
      refine (cmp_to (cx) HB12 F12.out).mono ?_
      rintro e w13 ⟨rfl, HB13⟩
      go_wp2_with fail
      refine (valid_to false HB13 FV0.out).mono ?_
      rintro e w14 ⟨rfl, HB14⟩
      go_wp2_with fail
      refine (valid_to true HB14 FV1.out).mono ?_
      rintro e w15 ⟨rfl, HB15⟩
      go_wp2
      go_ret
      exact ⟨rfl, HB15.out⟩
    · have hpz : ((p : Int) == 0) = false := by simpa using hp0
      have I_tw := one_is q
      have b_tw := two_fits hq
      obtain ⟨on, I_on⟩ := Is.exists (((10 ^ p : Nat) : Int))
      have b_on : (((10 ^ p : Nat) : Int)).natAbs < limit := ten_fits hp
      have F16 : Hid (addS (nine p).data.toList [49] = (on.data.toList, 0)) := add_is (nine_is (by omega)) Is.one I_on (ten_pred hp) (small_limit (by decide)) b_on (Int.sub_add_cancel ..)
      go_wp2_with fail
      refine (nines_any p (by omega) _).mono ?_
      rintro e w8 ⟨rfl, rfl⟩
      have HB8 := HB7
      go_wp2_with fail
      refine (add_to on 0 HT HB8 F16.out).mono ?_
      rintro e w9 ⟨rfl, HB9⟩
      go_wp2_with fail
      refine (nines_any q (by omega) _).mono ?_
      rintro e w10 ⟨rfl, rfl⟩
      have HB10 := HB9
      by_cases hsm : p + q < 200
      · obtain ⟨pr, I_pr⟩ := Is.exists (((10 ^ p : Nat) : Int) * (2 * ((10 ^ q : Nat) : Int) - 1))
        have b_pr : (((10 ^ p : Nat) : Int) * (2 * ((10 ^ q : Nat) : Int) - 1)).natAbs < limit := prod_fits (by omega)
        have hlen : ((pr.size : Nat) : Int) = (p : Int) + (q : Int) + 1 := by rw [prod_len I_pr]; omega
        have F17 : Hid (mulS on.data.toList ((⟨#[49]⟩ : ByteArray) ++ nine q).data.toList = (pr.data.toList, 0)) := mul_is I_on I_tw I_pr b_on b_tw b_pr rfl
        have hsm : (p : Int) + (q : Int) < 200 := by omega
        clear I_tw b_tw I_pr b_pr I_on b_on hp0
        go_wp2_with fail
        refine (mul_to pr 0 HT HB10 F17.out).mono ?_
        rintro e w11 ⟨rfl, HB11⟩
        go_wp2_with fail
        refine (cmp_to (cx) HB11 F12.out).mono ?_
        rintro e w12 ⟨rfl, HB12⟩
        go_wp2_with fail
        refine (valid_to false HB12 FV0.out).mono ?_
        rintro e w13 ⟨rfl, HB13⟩
        go_wp2_with fail
        refine (valid_to true HB13 FV1.out).mono ?_
        rintro e w14 ⟨rfl, HB14⟩
        go_wp2
        go_ret
        exact ⟨rfl, HB14.out⟩
      · have F18 : Hid (mulS on.data.toList ((⟨#[49]⟩ : ByteArray) ++ nine q).data.toList = ([], 30)) := by show _ = _; rw [I_on.list, I_tw.list]; exact mulS_no b_on b_tw (prod_not hsm)
        have hsn : ¬ (p : Int) + (q : Int) < 200 := by omega
        clear I_tw b_tw  I_on b_on hp0
        go_wp2_with fail
        refine (mul_to (⟨#[]⟩ : ByteArray) 30 HT HB10 F18.out).mono ?_
        rintro e w11 ⟨rfl, HB11⟩
        go_wp2_with fail
        refine (cmp_to (cx) HB11 F12.out).mono ?_
        rintro e w12 ⟨rfl, HB12⟩
        go_wp2_with fail
        refine (valid_to false HB12 FV0.out).mono ?_
        rintro e w13 ⟨rfl, HB13⟩
        go_wp2_with fail
        refine (valid_to true HB13 FV1.out).mono ?_
        rintro e w14 ⟨rfl, HB14⟩
        go_wp2
        go_ret
        exact ⟨rfl, HB14.out⟩

end Go.Proofs.Tryz
