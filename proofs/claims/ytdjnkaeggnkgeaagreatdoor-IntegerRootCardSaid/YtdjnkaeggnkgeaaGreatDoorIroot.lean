/- IntegerRoot returns true: the root's square is at most the number, the next square is greater. -/
import Derived.Test.YtdjnkaeggnkgeaaGreatDoorEqs
namespace Go.Proofs.Tryz
open Go.RowKit Go.Shelf Go.Proofs.Dt

theorem rt_bd {k : Nat} {x : Int} (hx : Bd k x) (h0 : 0 ≤ x) : Bd k (rt x.toNat : Int) := by
  unfold Bd at *
  have := rt_le x.toNat
  omega
theorem rt_square (x : Int) : (rt (x * x).toNat : Int) = (x.natAbs : Int) := by
  have h : (x * x).toNat = x.natAbs * x.natAbs := by
    rw [← Int.natAbs_mul_self]; exact Int.toNat_natCast _
  rw [h, Dt.rt_eq (IsRoot.square _)]
theorem rt_low {x : Int} (h0 : 0 ≤ x) : (rt x.toNat : Int) * (rt x.toNat : Int) ≤ x := by
  have h := (rt_spec x.toNat).1
  have h2 : ((rt x.toNat * rt x.toNat : Nat) : Int) ≤ (x.toNat : Int) := Int.ofNat_le.2 h
  rw [Int.natCast_mul] at h2
  omega
theorem rt_high {x : Int} : x < ((rt x.toNat : Int) + 1) * ((rt x.toNat : Int) + 1) := by
  have h := (rt_spec x.toNat).2
  have h2 : (x.toNat : Int) < (((rt x.toNat + 1) * (rt x.toNat + 1) : Nat) : Int) := Int.ofNat_lt.2 h
  rw [Int.natCast_mul, Int.natCast_add, Int.natCast_one] at h2
  omega

set_option maxHeartbeats 4000000 in
set_option maxRecDepth 100000 in
theorem iroot_any (a : ByteArray) (w : World) (ht : Tab w) : Calls Tryz.prog 6 #[(.string a)] w fun e w' => e = .returned (.bool true) ∧ Below w.heap.size w w' := by
  have HT := Lib.hid ht
  have HB0 := Since.refl w
  clear ht
  go_enter Tryz.func6, Tryz.ntmps6
  go_wp2_with fail
  refine (sane_any _ (HB0.tab HT)).mono ?_
  rintro e w1 ⟨rfl, hb1⟩
  have HB1 : Since w w1 := HB0.next hb1
  clear hb1
  go_wp2_with fail
  refine (made_to 80 (by decide) rfl HB1).mono ?_
  rintro e w2 ⟨x, X, rfl, HX, HB2⟩
  have BX := HX.out.2
  have IX : Is x X := HX.out.1
  obtain ⟨sq, I_sq⟩ := Is.exists (X * X)
  have b_sq : (X * X).natAbs < limit := (BX.mul BX).limit (by decide)
  have F1 : Hid (mulS x.data.toList x.data.toList = (sq.data.toList, 0)) := mul_is IX IX I_sq (BX.limit (by decide)) (BX.limit (by decide)) b_sq rfl
  have hsq : 0 ≤ X * X := by rw [← Int.natAbs_mul_self]; omega
  by_cases hX : X < 0
  · have hxz : x ≠ (⟨#[48]⟩ : ByteArray) := fun e => by have := (Is.inj IX Is.zero).1 e; omega
    obtain ⟨s, I_s⟩ := Is.exists (0 - X)
    have b_s : (0 - X).natAbs < limit := (by have h : X.natAbs < limit := (BX.limit (by decide)); omega)
    have hsx : (s.toList == x.toList) = false := toList_ne fun e => by have := (Is.inj I_s IX).1 e; omega
    have F2 : Hid (rootS x.data.toList = ([], 30)) := by show _ = _; rw [IX.list]; exact root_str_neg hX
    have F3 : Hid (rootS sq.data.toList = (s.data.toList, 0)) := root_is I_sq I_s b_sq hsq (by rw [rt_square]; omega)
    have F4 : Hid (addS s.data.toList x.data.toList = ((⟨#[48]⟩ : ByteArray).data.toList, 0)) := add_is I_s IX Is.zero b_s (BX.limit (by decide)) (small_limit (by decide)) (by omega)
    have F5 : Hid (cmpS x.data.toList (⟨#[48]⟩ : ByteArray).data.toList = -1) := (cmp_is IX Is.zero (BX.limit (by decide)) (small_limit (by decide))).trans (by unfold sgn; rw [if_pos (by omega)])
    clear BX IX HX I_sq b_sq I_s b_s hsq hX hxz
    go_wp2_with fail
    refine (root_to (⟨#[]⟩ : ByteArray) 30 HT HB2 F2.out).mono ?_
    rintro e w3 ⟨rfl, HB3⟩
    go_wp2_with fail
    refine (mul_to sq 0 HT HB3 F1.out).mono ?_
    rintro e w4 ⟨rfl, HB4⟩
    go_wp2_with fail
    refine (root_to s 0 HT HB4 F3.out).mono ?_
    rintro e w5 ⟨rfl, HB5⟩
    go_wp2_with fail
    refine (add_to (⟨#[48]⟩ : ByteArray) 0 HT HB5 F4.out).mono ?_
    rintro e w6 ⟨rfl, HB6⟩
    go_wp2_with fail
    refine (cmp_to (-1) HB6 F5.out).mono ?_
    rintro e w7 ⟨rfl, HB7⟩
    go_wp2
    go_ret
    exact ⟨rfl, HB7.out⟩
  · have hX0 : 0 ≤ X := by omega
    have BR := rt_bd BX hX0
    have hlow := rt_low hX0
    have hhigh := rt_high (x := X)
    obtain ⟨r, I_r⟩ := Is.exists ((rt X.toNat : Int))
    have b_r : ((rt X.toNat : Int)).natAbs < limit := BR.limit (by decide)
    obtain ⟨lo, I_lo⟩ := Is.exists ((rt X.toNat : Int) * (rt X.toNat : Int))
    have b_lo : ((rt X.toNat : Int) * (rt X.toNat : Int)).natAbs < limit := (BR.mul BR).limit (by decide)
    have BN : Bd 81 ((rt X.toNat : Int) + 1) := BR.add (by unfold Bd; decide)
    obtain ⟨nx, I_nx⟩ := Is.exists ((rt X.toNat : Int) + 1)
    have b_nx : ((rt X.toNat : Int) + 1).natAbs < limit := BN.limit (by decide)
    obtain ⟨hi, I_hi⟩ := Is.exists (((rt X.toNat : Int) + 1) * ((rt X.toNat : Int) + 1))
    have b_hi : (((rt X.toNat : Int) + 1) * ((rt X.toNat : Int) + 1)).natAbs < limit := (BN.mul BN).limit (by decide)
    obtain ⟨bk, I_bk⟩ := Is.exists (X + X)
    have b_bk : (X + X).natAbs < limit := (BX.add BX).limit (by decide)
    have F6 : Hid (rootS x.data.toList = (r.data.toList, 0)) := root_is IX I_r (BX.limit (by decide)) hX0 rfl
    have F7 : Hid (rootS sq.data.toList = (x.data.toList, 0)) := root_is I_sq IX b_sq hsq (by rw [rt_square]; omega)
    have F8 : Hid (addS x.data.toList x.data.toList = (bk.data.toList, 0)) := add_is IX IX I_bk (BX.limit (by decide)) (BX.limit (by decide)) b_bk rfl
    obtain ⟨c, hc⟩ : ∃ c, c = sgn (X - 0) := ⟨_, rfl⟩
    have hc0 : 0 ≤ c := by rw [hc]; unfold sgn; rw [if_neg (by omega)]; split <;> decide
    have F9 : Hid (cmpS x.data.toList (⟨#[48]⟩ : ByteArray).data.toList = c) := (cmp_is IX Is.zero (BX.limit (by decide)) (small_limit (by decide))).trans hc.symm
    have F10 : Hid (mulS r.data.toList r.data.toList = (lo.data.toList, 0)) := mul_is I_r I_r I_lo b_r b_r b_lo rfl
    have F11 : Hid (addS r.data.toList (⟨#[49]⟩ : ByteArray).data.toList = (nx.data.toList, 0)) := add_is I_r Is.one I_nx b_r (small_limit (by decide)) b_nx rfl
    have F12 : Hid (mulS nx.data.toList nx.data.toList = (hi.data.toList, 0)) := mul_is I_nx I_nx I_hi b_nx b_nx b_hi rfl
    obtain ⟨c2, hc2⟩ : ∃ c, c = sgn ((rt X.toNat : Int) * (rt X.toNat : Int) - X) := ⟨_, rfl⟩
    have hc20 : c2 ≤ 0 := by
      rw [hc2]; unfold sgn
      split
      · decide
      · rw [if_neg (by omega)]; decide
    have F13 : Hid (cmpS lo.data.toList x.data.toList = c2) := (cmp_is I_lo IX b_lo (BX.limit (by decide))).trans hc2.symm
    have F14 : Hid (cmpS hi.data.toList x.data.toList = 1) := (cmp_is I_hi IX b_hi (BX.limit (by decide))).trans (by unfold sgn; rw [if_neg (by omega), if_pos (by omega)])
    clear BX BR BN IX HX I_sq b_sq I_r b_r I_lo b_lo I_nx b_nx I_hi b_hi I_bk b_bk hsq hX hX0 hlow hhigh hc hc2
    go_wp2_with fail
    refine (root_to r 0 HT HB2 F6.out).mono ?_
    rintro e w3 ⟨rfl, HB3⟩
    go_wp2_with fail
    refine (mul_to sq 0 HT HB3 F1.out).mono ?_
    rintro e w4 ⟨rfl, HB4⟩
    go_wp2_with fail
    refine (root_to x 0 HT HB4 F7.out).mono ?_
    rintro e w5 ⟨rfl, HB5⟩
    go_wp2_with fail
    refine (add_to bk 0 HT HB5 F8.out).mono ?_
    rintro e w6 ⟨rfl, HB6⟩
    go_wp2_with fail
    refine (cmp_to c HB6 F9.out).mono ?_
    rintro e w7 ⟨rfl, HB7⟩
    go_wp2_with fail
    refine (mul_to lo 0 HT HB7 F10.out).mono ?_
    rintro e w8 ⟨rfl, HB8⟩
    go_wp2_with fail
    refine (add_to nx 0 HT HB8 F11.out).mono ?_
    rintro e w9 ⟨rfl, HB9⟩
    go_wp2_with fail
    refine (mul_to hi 0 HT HB9 F12.out).mono ?_
    rintro e w10 ⟨rfl, HB10⟩
    go_wp2_with fail
    refine (cmp_to c2 HB10 F13.out).mono ?_
    rintro e w11 ⟨rfl, HB11⟩
    go_wp2_with fail
    refine (cmp_to 1 HB11 F14.out).mono ?_
    rintro e w12 ⟨rfl, HB12⟩
    go_wp2
    go_ret
    exact ⟨rfl, HB12.out⟩

end Go.Proofs.Tryz
