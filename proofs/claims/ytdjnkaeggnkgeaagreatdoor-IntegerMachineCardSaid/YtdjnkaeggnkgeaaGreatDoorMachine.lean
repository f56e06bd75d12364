/- IntegerMachine returns true: integers calculate as the numbers that they are. -/
import Derived.Test.YtdjnkaeggnkgeaaGreatDoorZed2
namespace Go.Proofs.Tryz
open Go.RowKit Go.Shelf Go.Proofs.Dt

theorem sgn_lt' {x : Int} (h : x < 0) : sgn x = -1 := by unfold sgn; rw [if_pos h]
theorem sgn_gt' {x : Int} (h : 0 < x) : sgn x = 1 := by unfold sgn; rw [if_neg (by omega), if_pos h]
theorem sgn_eq' {x : Int} (h : x = 0) : sgn x = 0 := by unfold sgn; rw [if_neg (by omega), if_neg (by omega)]
/-- Go's quotient and remainder, and the ones of the chapter. -/
theorem quot_cases {x y : Int} (hx : -2147483648 ≤ x ∧ x ≤ 2147483647) (hy : -2147483648 ≤ y ∧ y ≤ 2147483647) (h0 : y ≠ 0) :
    ∃ q r, x.tdiv y = q ∧ x.tmod y = r ∧ -2147483648 ≤ q ∧ q ≤ 2147483648 ∧ -2147483648 ≤ r ∧ r ≤ 2147483648 ∧
      ((0 ≤ r ∧ x / y = q ∧ x % y = r) ∨ (r < 0 ∧ 0 < y ∧ x / y = q - 1 ∧ x % y = r + y ∧ 0 ≤ r + y) ∨ (r < 0 ∧ y < 0 ∧ x / y = q + 1 ∧ x % y = r - y ∧ 0 ≤ r - y)) := by
  refine ⟨_, _, rfl, rfl, ?_⟩
  have h1 := Int.mul_tdiv_add_tmod x y
  have h2 : (x.tdiv y).natAbs ≤ x.natAbs := by rw [Int.natAbs_tdiv]; exact Nat.div_le_self _ _
  have h3 : (x.tmod y).natAbs < y.natAbs := by rw [Int.natAbs_tmod]; exact Nat.mod_lt _ (by omega)
  generalize x.tdiv y = q at h1 h2
  generalize x.tmod y = r at h1 h3
  refine ⟨by omega, by omega, by omega, by omega, ?_⟩
  rcases Int.lt_or_le r 0 with hr | hr
  · rcases Int.lt_or_le y 0 with hy' | hy'
    · refine .inr (.inr ⟨hr, hy', ?_⟩)
      have h := (Int.ediv_emod_unique' (a := x) (b := y) (q := q + 1) (r := r - y) hy').2 ⟨by rw [Int.mul_add]; omega, by omega, by omega⟩
      exact ⟨h.1, h.2, by omega⟩
    · refine .inr (.inl ⟨hr, by omega, ?_⟩)
      have h := (Int.ediv_emod_unique (a := x) (b := y) (q := q - 1) (r := r + y) (by omega)).2 ⟨by rw [Int.mul_sub]; omega, by omega, by omega⟩
      exact ⟨h.1, h.2, by omega⟩
  · rcases Int.lt_or_le y 0 with hy' | hy'
    · have h := (Int.ediv_emod_unique' (a := x) (b := y) (q := q) (r := r) hy').2 ⟨by omega, by omega, by omega⟩
      exact .inl ⟨hr, h.1, h.2⟩
    · have h := (Int.ediv_emod_unique (a := x) (b := y) (q := q) (r := r) (by omega)).2 ⟨by omega, by omega, by omega⟩
      exact .inl ⟨hr, h.1, h.2⟩
theorem mul_i32 {x y : Int} (hx : -2147483648 ≤ x ∧ x ≤ 2147483647) (hy : -2147483648 ≤ y ∧ y ≤ 2147483647) : -9223372036854775808 ≤ x * y ∧ x * y ≤ 9223372036854775807 := by
  have h : (x * y).natAbs ≤ 2147483648 * 2147483648 := by rw [Int.natAbs_mul]; exact Nat.mul_le_mul (by omega) (by omega)
  omega

set_option maxHeartbeats 4000000 in
set_option maxRecDepth 100000 in
theorem machine_any (x y : Int) (hx : -2147483648 ≤ x ∧ x ≤ 2147483647) (hy : -2147483648 ≤ y ∧ y ≤ 2147483647) (w : World) (ht : Tab w) (he : Errs w) : Calls Tryz.prog 10 #[(.int .i32 x), (.int .i32 y)] w fun e w' => e = .returned (.bool true) ∧ Below w.heap.size w w' := by
  obtain ⟨s, Is1⟩ := Is.exists x
  obtain ⟨t, It⟩ := Is.exists y
  obtain ⟨sm, Ism⟩ := Is.exists (x + y)
  obtain ⟨df, Idf⟩ := Is.exists (x - y)
  obtain ⟨pr, Ipr⟩ := Is.exists (x * y)
  obtain ⟨hm0, hm1⟩ := mul_i32 hx hy
  obtain ⟨hx0, hx1⟩ := hx
  obtain ⟨hy0, hy1⟩ := hy
  have bx : x.natAbs < limit := i64_limit (by omega) (by omega)
  have by' : y.natAbs < limit := i64_limit (by omega) (by omega)
  have bm : (x * y).natAbs < limit := i64_limit hm0 hm1
  have F1 : Hid (Is s x ∧ -9223372036854775808 ≤ x ∧ x ≤ 9223372036854775807) := ⟨Is1, by omega, by omega⟩
  have F2 : Hid (Is t y ∧ -9223372036854775808 ≤ y ∧ y ≤ 9223372036854775807) := ⟨It, by omega, by omega⟩
  have F3 : Hid (s.size ≤ 1000 ∧ toIntS s.data.toList = (x, 0)) := ⟨Is.size Is1 bx, by rw [Is.list Is1]; exact toIntS_str bx (by omega) (by omega)⟩
  have F4 : Hid (addS s.data.toList t.data.toList = (sm.data.toList, 0)) := add_is Is1 It Ism bx by' (i64_limit (by omega) (by omega)) rfl
  have F5 : Hid (subS s.data.toList t.data.toList = (df.data.toList, 0)) := sub_is Is1 It Idf bx by' (i64_limit (by omega) (by omega)) rfl
  have F6 : Hid (mulS s.data.toList t.data.toList = (pr.data.toList, 0)) := mul_is Is1 It Ipr bx by' bm rfl
  have F7 : Hid (Is sm (x + y) ∧ -9223372036854775808 ≤ x + y ∧ x + y ≤ 9223372036854775807) := ⟨Ism, by omega, by omega⟩
  have F8 : Hid (Is df (x - y) ∧ -9223372036854775808 ≤ x - y ∧ x - y ≤ 9223372036854775807) := ⟨Idf, by omega, by omega⟩
  have F9 : Hid (Is pr (x * y) ∧ -9223372036854775808 ≤ x * y ∧ x * y ≤ 9223372036854775807) := ⟨Ipr, hm0, hm1⟩
  clear Ism Idf Ipr bm
  have HT := Lib.hid ht
  have HB0 := Since.refl w
  clear ht
  have HE := Lib.hid he
  clear he
  go_enter Tryz.func10, Tryz.ntmps10
  go_wp2_with fail
  refine (sane_any _ (HB0.tab HT)).mono ?_
  rintro e w1 ⟨rfl, hb1⟩
  have HB1 : Since w w1 := HB0.next hb1
  clear hb1
  go_wp2_with fail
  refine (from_to s HT HB1 F1).mono ?_
  rintro e w2 ⟨rfl, HB2⟩
  go_wp2_with fail
  refine (from_to t HT HB2 F2).mono ?_
  rintro e w3 ⟨rfl, HB3⟩
  go_wp2_with fail
  refine (toInt_to x 0 HE HB3 F3).mono ?_
  rintro e w4 ⟨rfl, HB4⟩
  go_wp2_with fail
  refine (add_to sm 0 HT HB4 F4.out).mono ?_
  rintro e w5 ⟨rfl, HB5⟩
  go_wp2_with fail
  refine (sub_to df 0 HT HB5 F5.out).mono ?_
  rintro e w6 ⟨rfl, HB6⟩
  go_wp2_with fail
  refine (mul_to pr 0 HT HB6 F6.out).mono ?_
  rintro e w7 ⟨rfl, HB7⟩
  go_wp2_with fail
  refine (from_to sm HT HB7 F7).mono ?_
  rintro e w8 ⟨rfl, HB8⟩
  go_wp2_with fail
  refine (from_to df HT HB8 F8).mono ?_
  rintro e w9 ⟨rfl, HB9⟩
  go_wp2_with fail
  refine (from_to pr HT HB9 F9).mono ?_
  rintro e w10 ⟨rfl, HB10⟩
  clear hm0 hm1
  rcases Int.lt_trichotomy x y with hc | hc | hc
  · have F21 : Hid (cmpS s.data.toList t.data.toList = -1) := (cmp_is Is1 It bx by').trans (sgn_lt' (by omega))
    go_wp2_with fail
    refine (cmp_to (-1) HB10 F21.out).mono ?_
    rintro e w11 ⟨rfl, HB11⟩
    by_cases hz : y = 0
    · subst hz
      have F22 : Hid (divS s.data.toList t.data.toList = ([], [], 30)) := by show _ = _; rw [Is.list Is1, Is.list It]; exact divS_zero _ (num_str 0)
      clear Is1 It bx by'
      go_wp2_with fail
      refine (div_to (⟨#[]⟩ : ByteArray) (⟨#[]⟩ : ByteArray) 30 HT HB11 F22.out).mono ?_
      rintro e w12 ⟨rfl, HB12⟩
      go_wp2
      go_ret
      exact ⟨rfl, HB12.out⟩
    · obtain ⟨q, r, hq, hr, hq0, hq1, hr0, hr1, hcs⟩ := quot_cases ⟨hx0, hx1⟩ ⟨hy0, hy1⟩ hz
      rcases hcs with ⟨g0, e1, e2⟩ | ⟨g0, g1, e1, e2, e3⟩ | ⟨g0, g1, e1, e2, e3⟩
      · obtain ⟨qs, Iq⟩ := Is.exists (q)
        obtain ⟨rs, Ir⟩ := Is.exists (r)
        have F23 : Hid (divS s.data.toList t.data.toList = (qs.data.toList, rs.data.toList, 0)) := div_is Is1 It Iq Ir bx by' hz e1 e2
        have G1 : Hid (Is qs (q) ∧ -9223372036854775808 ≤ q ∧ q ≤ 9223372036854775807) := ⟨Iq, by omega, by omega⟩
        have G2 : Hid (Is rs (r) ∧ -9223372036854775808 ≤ r ∧ r ≤ 9223372036854775807) := ⟨Ir, by omega, by omega⟩
        clear Is1 It Iq Ir bx by' e1 e2
        have hyz : (y == 0) = false := by simpa using hz
        go_wp2_with fail
        refine (div_to qs rs 0 HT HB11 F23.out).mono ?_
        rintro e w12 ⟨rfl, HB12⟩
        go_wp2_with fail
        refine (from_to qs HT HB12 G1).mono ?_
        rintro e w13 ⟨rfl, HB13⟩
        go_wp2_with fail
        refine (from_to rs HT HB13 G2).mono ?_
        rintro e w14 ⟨rfl, HB14⟩
        go_wp2
        go_ret
        exact ⟨rfl, HB14.out⟩
      · obtain ⟨qs, Iq⟩ := Is.exists (q - 1)
        obtain ⟨rs, Ir⟩ := Is.exists (r + y)
        have F24 : Hid (divS s.data.toList t.data.toList = (qs.data.toList, rs.data.toList, 0)) := div_is Is1 It Iq Ir bx by' hz e1 e2
        have G1 : Hid (Is qs (q - 1) ∧ -9223372036854775808 ≤ q - 1 ∧ q - 1 ≤ 9223372036854775807) := ⟨Iq, by omega, by omega⟩
        have G2 : Hid (Is rs (r + y) ∧ -9223372036854775808 ≤ r + y ∧ r + y ≤ 9223372036854775807) := ⟨Ir, by omega, by omega⟩
        clear Is1 It Iq Ir bx by' e1 e2
        have hyz : (y == 0) = false := by simpa using hz
        go_wp2_with fail
        refine (div_to qs rs 0 HT HB11 F24.out).mono ?_
        rintro e w12 ⟨rfl, HB12⟩
        go_wp2_with fail
        refine (from_to qs HT HB12 G1).mono ?_
        rintro e w13 ⟨rfl, HB13⟩
        go_wp2_with fail
        refine (from_to rs HT HB13 G2).mono ?_
        rintro e w14 ⟨rfl, HB14⟩
        go_wp2
        go_ret
        exact ⟨rfl, HB14.out⟩
      · obtain ⟨qs, Iq⟩ := Is.exists (q + 1)
        obtain ⟨rs, Ir⟩ := Is.exists (r - y)
        have F25 : Hid (divS s.data.toList t.data.toList = (qs.data.toList, rs.data.toList, 0)) := div_is Is1 It Iq Ir bx by' hz e1 e2
        have G1 : Hid (Is qs (q + 1) ∧ -9223372036854775808 ≤ q + 1 ∧ q + 1 ≤ 9223372036854775807) := ⟨Iq, by omega, by omega⟩
        have G2 : Hid (Is rs (r - y) ∧ -9223372036854775808 ≤ r - y ∧ r - y ≤ 9223372036854775807) := ⟨Ir, by omega, by omega⟩
        clear Is1 It Iq Ir bx by' e1 e2
        have hyz : (y == 0) = false := by simpa using hz
        go_wp2_with fail
        refine (div_to qs rs 0 HT HB11 F25.out).mono ?_
        rintro e w12 ⟨rfl, HB12⟩
        go_wp2_with fail
        refine (from_to qs HT HB12 G1).mono ?_
        rintro e w13 ⟨rfl, HB13⟩
        go_wp2_with fail
        refine (from_to rs HT HB13 G2).mono ?_
        rintro e w14 ⟨rfl, HB14⟩
        go_wp2
        go_ret
        exact ⟨rfl, HB14.out⟩
  · have F26 : Hid (cmpS s.data.toList t.data.toList = 0) := (cmp_is Is1 It bx by').trans (sgn_eq' (by omega))
    have h1 : ¬ x < y := by omega
    have h2 : ¬ y < x := by omega
    clear hc
    go_wp2_with fail
    refine (cmp_to (0) HB10 F26.out).mono ?_
    rintro e w11 ⟨rfl, HB11⟩
    by_cases hz : y = 0
    · subst hz
      have F27 : Hid (divS s.data.toList t.data.toList = ([], [], 30)) := by show _ = _; rw [Is.list Is1, Is.list It]; exact divS_zero _ (num_str 0)
      clear Is1 It bx by'
      go_wp2_with fail
      refine (div_to (⟨#[]⟩ : ByteArray) (⟨#[]⟩ : ByteArray) 30 HT HB11 F27.out).mono ?_
      rintro e w12 ⟨rfl, HB12⟩
      go_wp2
      go_ret
      exact ⟨rfl, HB12.out⟩
    · obtain ⟨q, r, hq, hr, hq0, hq1, hr0, hr1, hcs⟩ := quot_cases ⟨hx0, hx1⟩ ⟨hy0, hy1⟩ hz
      rcases hcs with ⟨g0, e1, e2⟩ | ⟨g0, g1, e1, e2, e3⟩ | ⟨g0, g1, e1, e2, e3⟩
      · obtain ⟨qs, Iq⟩ := Is.exists (q)
        obtain ⟨rs, Ir⟩ := Is.exists (r)
        have F28 : Hid (divS s.data.toList t.data.toList = (qs.data.toList, rs.data.toList, 0)) := div_is Is1 It Iq Ir bx by' hz e1 e2
        have G1 : Hid (Is qs (q) ∧ -9223372036854775808 ≤ q ∧ q ≤ 9223372036854775807) := ⟨Iq, by omega, by omega⟩
        have G2 : Hid (Is rs (r) ∧ -9223372036854775808 ≤ r ∧ r ≤ 9223372036854775807) := ⟨Ir, by omega, by omega⟩
        clear Is1 It Iq Ir bx by' e1 e2
        have hyz : (y == 0) = false := by simpa using hz
        go_wp2_with fail
        refine (div_to qs rs 0 HT HB11 F28.out).mono ?_
        rintro e w12 ⟨rfl, HB12⟩
        go_wp2_with fail
        refine (from_to qs HT HB12 G1).mono ?_
        rintro e w13 ⟨rfl, HB13⟩
        go_wp2_with fail
        refine (from_to rs HT HB13 G2).mono ?_
        rintro e w14 ⟨rfl, HB14⟩
        go_wp2
        go_ret
        exact ⟨rfl, HB14.out⟩
      · obtain ⟨qs, Iq⟩ := Is.exists (q - 1)
        obtain ⟨rs, Ir⟩ := Is.exists (r + y)
        have F29 : Hid (divS s.data.toList t.data.toList = (qs.data.toList, rs.data.toList, 0)) := div_is Is1 It Iq Ir bx by' hz e1 e2
        have G1 : Hid (Is qs (q - 1) ∧ -9223372036854775808 ≤ q - 1 ∧ q - 1 ≤ 9223372036854775807) := ⟨Iq, by omega, by omega⟩
        have G2 : Hid (Is rs (r + y) ∧ -9223372036854775808 ≤ r + y ∧ r + y ≤ 9223372036854775807) := ⟨Ir, by omega, by omega⟩
        clear Is1 It Iq Ir bx by' e1 e2
        have hyz : (y == 0) = false := by simpa using hz
        go_wp2_with fail
        refine (div_to qs rs 0 HT HB11 F29.out).mono ?_
        rintro e w12 ⟨rfl, HB12⟩
        go_wp2_with fail
        refine (from_to qs HT HB12 G1).mono ?_
        rintro e w13 ⟨rfl, HB13⟩
        go_wp2_with fail
        refine (from_to rs HT HB13 G2).mono ?_
        rintro e w14 ⟨rfl, HB14⟩
        go_wp2
        go_ret
        exact ⟨rfl, HB14.out⟩
      · obtain ⟨qs, Iq⟩ := Is.exists (q + 1)
        obtain ⟨rs, Ir⟩ := Is.exists (r - y)
        have F30 : Hid (divS s.data.toList t.data.toList = (qs.data.toList, rs.data.toList, 0)) := div_is Is1 It Iq Ir bx by' hz e1 e2
        have G1 : Hid (Is qs (q + 1) ∧ -9223372036854775808 ≤ q + 1 ∧ q + 1 ≤ 9223372036854775807) := ⟨Iq, by omega, by omega⟩
        have G2 : Hid (Is rs (r - y) ∧ -9223372036854775808 ≤ r - y ∧ r - y ≤ 9223372036854775807) := ⟨Ir, by omega, by omega⟩
        clear Is1 It Iq Ir bx by' e1 e2
        have hyz : (y == 0) = false := by simpa using hz
        go_wp2_with fail
        refine (div_to qs rs 0 HT HB11 F30.out).mono ?_
        rintro e w12 ⟨rfl, HB12⟩
        go_wp2_with fail
        refine (from_to qs HT HB12 G1).mono ?_
        rintro e w13 ⟨rfl, HB13⟩
        go_wp2_with fail
        refine (from_to rs HT HB13 G2).mono ?_
        rintro e w14 ⟨rfl, HB14⟩
        go_wp2
        go_ret
        exact ⟨rfl, HB14.out⟩
  · have F31 : Hid (cmpS s.data.toList t.data.toList = 1) := (cmp_is Is1 It bx by').trans (sgn_gt' (by omega))
    go_wp2_with fail
    refine (cmp_to (1) HB10 F31.out).mono ?_
    rintro e w11 ⟨rfl, HB11⟩
    by_cases hz : y = 0
    · subst hz
      have F32 : Hid (divS s.data.toList t.data.toList = ([], [], 30)) := by show _ = _; rw [Is.list Is1, Is.list It]; exact divS_zero _ (num_str 0)
      clear Is1 It bx by'
      go_wp2_with fail
      refine (div_to (⟨#[]⟩ : ByteArray) (⟨#[]⟩ : ByteArray) 30 HT HB11 F32.out).mono ?_
      rintro e w12 ⟨rfl, HB12⟩
      go_wp2
      go_ret
      exact ⟨rfl, HB12.out⟩
    · obtain ⟨q, r, hq, hr, hq0, hq1, hr0, hr1, hcs⟩ := quot_cases ⟨hx0, hx1⟩ ⟨hy0, hy1⟩ hz
      rcases hcs with ⟨g0, e1, e2⟩ | ⟨g0, g1, e1, e2, e3⟩ | ⟨g0, g1, e1, e2, e3⟩
      · obtain ⟨qs, Iq⟩ := Is.exists (q)
        obtain ⟨rs, Ir⟩ := Is.exists (r)
        have F33 : Hid (divS s.data.toList t.data.toList = (qs.data.toList, rs.data.toList, 0)) := div_is Is1 It Iq Ir bx by' hz e1 e2
        have G1 : Hid (Is qs (q) ∧ -9223372036854775808 ≤ q ∧ q ≤ 9223372036854775807) := ⟨Iq, by omega, by omega⟩
        have G2 : Hid (Is rs (r) ∧ -9223372036854775808 ≤ r ∧ r ≤ 9223372036854775807) := ⟨Ir, by omega, by omega⟩
        clear Is1 It Iq Ir bx by' e1 e2
        have hyz : (y == 0) = false := by simpa using hz
        go_wp2_with fail
        refine (div_to qs rs 0 HT HB11 F33.out).mono ?_
        rintro e w12 ⟨rfl, HB12⟩
        go_wp2_with fail
        refine (from_to qs HT HB12 G1).mono ?_
        rintro e w13 ⟨rfl, HB13⟩
        go_wp2_with fail
        refine (from_to rs HT HB13 G2).mono ?_
        rintro e w14 ⟨rfl, HB14⟩
        go_wp2
        go_ret
        exact ⟨rfl, HB14.out⟩
      · obtain ⟨qs, Iq⟩ := Is.exists (q - 1)
        obtain ⟨rs, Ir⟩ := Is.exists (r + y)
        have F34 : Hid (divS s.data.toList t.data.toList = (qs.data.toList, rs.data.toList, 0)) := div_is Is1 It Iq Ir bx by' hz e1 e2
        have G1 : Hid (Is qs (q - 1) ∧ -9223372036854775808 ≤ q - 1 ∧ q - 1 ≤ 9223372036854775807) := ⟨Iq, by omega, by omega⟩
        have G2 : Hid (Is rs (r + y) ∧ -9223372036854775808 ≤ r + y ∧ r + y ≤ 9223372036854775807) := ⟨Ir, by omega, by omega⟩
        clear Is1 It Iq Ir bx by' e1 e2
        have hyz : (y == 0) = false := by simpa using hz
        go_wp2_with fail
        refine (div_to qs rs 0 HT HB11 F34.out).mono ?_
        rintro e w12 ⟨rfl, HB12⟩
        go_wp2_with fail
        refine (from_to qs HT HB12 G1).mono ?_
        rintro e w13 ⟨rfl, HB13⟩
        go_wp2_with fail
        refine (from_to rs HT HB13 G2).mono ?_
        rintro e w14 ⟨rfl, HB14⟩
        go_wp2
        go_ret
        exact ⟨rfl, HB14.out⟩
      · obtain ⟨qs, Iq⟩ := Is.exists (q + 1)
        obtain ⟨rs, Ir⟩ := Is.exists (r - y)
        have F35 : Hid (divS s.data.toList t.data.toList = (qs.data.toList, rs.data.toList, 0)) := div_is Is1 It Iq Ir bx by' hz e1 e2
        have G1 : Hid (Is qs (q + 1) ∧ -9223372036854775808 ≤ q + 1 ∧ q + 1 ≤ 9223372036854775807) := ⟨Iq, by omega, by omega⟩
        have G2 : Hid (Is rs (r - y) ∧ -9223372036854775808 ≤ r - y ∧ r - y ≤ 9223372036854775807) := ⟨Ir, by omega, by omega⟩
        clear Is1 It Iq Ir bx by' e1 e2
        have hyz : (y == 0) = false := by simpa using hz
        go_wp2_with fail
        refine (div_to qs rs 0 HT HB11 F35.out).mono ?_
        rintro e w12 ⟨rfl, HB12⟩
        go_wp2_with fail
        refine (from_to qs HT HB12 G1).mono ?_
        rintro e w13 ⟨rfl, HB13⟩
        go_wp2_with fail
        refine (from_to rs HT HB13 G2).mono ?_
        rintro e w14 ⟨rfl, HB14⟩
        go_wp2
        go_ret
        exact ⟨rfl, HB14.out⟩

end Go.Proofs.Tryz
