/- The reference's Valid, Make and Of of fractions, and its small fractions. -/
import Derived.Test.YtjjmabokoendbaaGreatDoorRD
import Derived.Test.YtjjmabokoendbaaGreatDoorFr3
namespace Go.Proofs.Dt
/-- An arbitrary integer as one from 0 to n - 1. -/
def pickZ (c n : Int) : Int := (if c < 0 then -(c + 1) else c) % n
theorem pickZ_in (c : Int) {n : Int} (h : 0 < n) : 0 ≤ pickZ c n ∧ pickZ c n < n := ⟨Int.emod_nonneg _ (by omega), Int.emod_lt_of_pos _ h⟩
theorem frac_size {x y : ByteArray} {q : Rat} (h : Fr x y q) : x.size ≤ 1000 ∧ y.size ≤ 1000 :=
  ⟨Is.size h.1 h.2.2.1, Is.size h.2.1 (den_lim h.2.2.2)⟩
end Go.Proofs.Dt
namespace Go.Proofs.Tryz
open Go.RowKit Go.Shelf Go.Proofs.Dt

theorem pick_wrap {c n : Int} (h : c < 0) : (-(c + 1)).tmod n = pickZ c n := by
  unfold pickZ; rw [if_pos h, Int.tmod_eq_emod_of_nonneg (by omega)]
theorem pick_wrap' {c n : Int} (h : ¬ c < 0) : c % n = pickZ c n := by unfold pickZ; rw [if_neg h]

theorem since_mk {P : Ending → Prop} {w0 w : World} (hB : Since w0 w) {e : Ending} {w' : World} (h : P e ∧ Below w.heap.size w w') : P e ∧ Since w0 w' := ⟨h.1, hB.next h.2⟩

theorem qpick_any (c n : Int) (hc : Hid (-9223372036854775808 ≤ c ∧ c ≤ 9223372036854775807)) (hn : 0 < n) (hn2 : n ≤ 9223372036854775807) (w : World) : Calls Tryz.prog 46 #[.int .i64 c, .int .i64 n] w fun e w' => e = .returned (.int .i64 (pickZ c n)) ∧ w = w' := by
  have h0 := hc.out.1
  have h1 := hc.out.2
  by_cases h : c < 0
  · go_enter Tryz.func46, Tryz.ntmps46
    go_wp2
    go_ret
    exact ⟨ret_int (by rw [← pick_wrap h]; simp [Int.neg_tmod]), rfl⟩
  · go_enter Tryz.func46, Tryz.ntmps46
    go_wp2
    go_ret
    exact ⟨ret_int (pick_wrap' (by omega)), rfl⟩

theorem lpick_any (c n : Int) (hc : Hid (-9223372036854775808 ≤ c ∧ c ≤ 9223372036854775807)) (hn : 0 < n) (hn2 : n ≤ 9223372036854775807) (w : World) : Calls Tryz.prog 19 #[.int .i64 c, .int .i64 n] w fun e w' => e = .returned (.int .i64 (pickZ c n)) ∧ w = w' := by
  have h0 := hc.out.1
  have h1 := hc.out.2
  by_cases h : c < 0
  · go_enter Tryz.func19, Tryz.ntmps19
    go_wp2
    go_ret
    exact ⟨ret_int (by rw [← pick_wrap h]; simp [Int.neg_tmod]), rfl⟩
  · go_enter Tryz.func19, Tryz.ntmps19
    go_wp2
    go_ret
    exact ⟨ret_int (pick_wrap' (by omega)), rfl⟩


set_option maxHeartbeats 1000000 in
set_option maxRecDepth 100000 in
theorem qvalid_any (x y : ByteArray) (w : World) (hx : x.size ≤ 1000) (hy : y.size ≤ 1000) : Calls Tryz.prog 42 #[.agg #[.string x, .string y]] w fun e w' => e = .returned (.bool (validR x.data.toList y.data.toList)) ∧ Below w.heap.size w w' := by
  obtain ⟨r, hr⟩ : ∃ r, r = validR x.data.toList y.data.toList := ⟨_, rfl⟩
  rw [← hr]
  have HR := Lib.hid hr
  obtain ⟨v1, h1⟩ : ∃ v, valid x.data.toList = v := ⟨_, rfl⟩
  obtain ⟨v2, h2⟩ : ∃ v, valid y.data.toList = v := ⟨_, rfl⟩
  have F1 := Lib.hid h1
  have F2 := Lib.hid h2
  obtain ⟨c, h3⟩ : ∃ c, cmpS y.data.toList (⟨#[48]⟩ : ByteArray).data.toList = c := ⟨_, rfl⟩
  have F3 := Lib.hid h3
  have HX := Lib.hid hx
  have HY := Lib.hid hy
  have HF0 : Hid (FB (w.alloc (.cells #[.string x, .string y] 26)) w.heap.size x y) := FB.new w x y
  have HB0 : Since w (w.alloc (.cells #[.string x, .string y] 26)) := (Below.refl _ w).alloc (Nat.le_refl _) _
  clear hr h1 h2 h3 hx hy
  have c10 := HF0.out.c0
  have c11 := HF0.out.c1
  go_enter Tryz.func42, Tryz.ntmps42
  go_wp2_with fail
  clear c10 c11
  generalize w.alloc (.cells #[.string x, .string y] 26) = w0 at HF0 HB0 ⊢
  refine (rvalid_to v1 w0 HX.out F1.out).mono ?_
  rintro e w1 ⟨rfl, hw1⟩
  subst hw1
  have c10 := HF0.out.c0
  have c11 := HF0.out.c1
  go_wp2_with fail
  clear c10 c11
  refine (rvalid_to v2 w0 HY.out F2.out).mono ?_
  rintro e w2 ⟨rfl, hw2⟩
  subst hw2
  have c10 := HF0.out.c0
  have c11 := HF0.out.c1
  cases v1
  · go_wp2
    go_ret
    exact ⟨by rw [HR.out, validR_1 F1.out]; rfl, HB0.out⟩
  · cases v2
    · go_wp2
      go_ret
      exact ⟨by rw [HR.out, validR_2 F2.out]; rfl, HB0.out⟩
    · have hcs : c = sgn (num y.data.toList - 0) := F3.out.symm.trans (cmp_lit F2.out (by decide))
      have HG := Lib.hid (gcd_valid F1.out F2.out)
      by_cases hc : c ≤ 0
      · have HV : Hid (r = false) := by
          show r = false
          rw [HR.out]; refine validR_3 ?_
          rcases Int.lt_or_le 0 (num y.data.toList) with h | h
          · rw [hcs, sgn_of_gt (by omega)] at hc; omega
          · exact h
        clear hcs
        go_wp2_with fail
        refine (rcompare_any y _ HY.out (by decide) w0 c F3).mono ?_
        rintro e w3 ⟨rfl, hb3⟩
        go_wp2
        go_ret
        exact ⟨by rw [HV.out]; rfl, (HB0.next hb3).out⟩
      · have HP : Hid (0 < num y.data.toList) := by
          show 0 < _
          rcases Int.lt_or_le 0 (num y.data.toList) with h | h
          · exact h
          · exfalso; apply hc; rw [hcs]; unfold sgn; split
            · decide
            · rw [if_neg (by omega)]; decide
        clear hcs
        go_wp2_with fail
        refine (rcompare_any y _ HY.out (by decide) w0 c F3).mono ?_
        rintro e w3 ⟨rfl, hb3⟩
        have HF3 : Hid (FB w3 w.heap.size x y) := HF0.out.below hb3 HF0.out.lt
        have HB3 : Since w w3 := HB0.next hb3
        clear hb3 c11 c10
        have c31 := HF3.out.c1
        have c30 := HF3.out.c0
        by_cases hg : Int.gcd (num x.data.toList) (num y.data.toList) = 1
        · have HV : Hid (r = true ∧ gcdS x.data.toList y.data.toList = ((⟨#[49]⟩ : ByteArray).data.toList, 0)) := by
            refine ⟨?_, ?_⟩
            · rw [HR.out]; exact validR_5 F1.out F2.out HP.out hg
            · rw [HG.out, hg, Int.natCast_one, sx_one]
          clear hg
          go_wp2_with fail
          refine (rgcd_any x y HX.out HY.out w3 (⟨#[49]⟩ : ByteArray) 0 HV.out.2).mono ?_
          rintro e w4 ⟨rfl, hb4⟩
          go_wp2
          go_ret
          exact ⟨by rw [HV.out.1]; rfl, (HB3.next hb4).out⟩
        · have HV : Hid (r = false) := by
            show r = false
            rw [HR.out]; exact validR_4 hg
          have hne := toList_ne (sx_one_ne (g := (Int.gcd (num x.data.toList) (num y.data.toList) : Int)) (by omega))
          rw [show (⟨#[49]⟩ : ByteArray).toList = [49] from Go.ByteArray.toList_eq _] at hne
          clear hg
          revert HG hne
          generalize sx (Int.gcd (num x.data.toList) (num y.data.toList) : Int) = g
          intro HG hne
          go_wp2_with fail
          refine (rgcd_any x y HX.out HY.out w3 g 0 HG).mono ?_
          rintro e w4 ⟨rfl, hb4⟩
          go_wp2
          go_ret
          exact ⟨by rw [HV.out]; rfl, (HB3.next hb4).out⟩

set_option maxHeartbeats 2000000 in
set_option maxRecDepth 100000 in
theorem qmake_any (n d u v : ByteArray) (c : Int) (w : World) (hn : n.size ≤ 1000) (hd : d.size ≤ 1000) (hr : Hid (out (makeS n.data.toList d.data.toList) = (u, v, c))) :
    Calls Tryz.prog 41 #[.string n, .string d] w (RedPost w u v c) := by
  have HF0 : Hid (FB (w.alloc (.cells #[.string ⟨#[]⟩, .string ⟨#[]⟩] 26)) w.heap.size ⟨#[]⟩ ⟨#[]⟩) := FB.new w _ _
  have HB0 : Since w (w.alloc (.cells #[.string ⟨#[]⟩, .string ⟨#[]⟩] 26)) := (Below.refl _ w).alloc (Nat.le_refl _) _
  obtain ⟨v1, h1⟩ : ∃ v, valid n.data.toList = v := ⟨_, rfl⟩
  obtain ⟨v2, h2⟩ : ∃ v, valid d.data.toList = v := ⟨_, rfl⟩
  have F1 := Lib.hid h1
  have F2 := Lib.hid h2
  have HN := Lib.hid hn
  have HD := Lib.hid hd
  clear h1 h2 hn hd
  go_enter Tryz.func41, Tryz.ntmps41
  go_wp2_with fail
  generalize w.alloc (.cells #[.string ⟨#[]⟩, .string ⟨#[]⟩] 26) = w0 at HF0 HB0 ⊢
  refine (rvalid_to v1 w0 HN.out F1.out).mono ?_
  rintro e w1 ⟨rfl, hw1⟩
  subst hw1
  go_wp2_with fail
  refine (rvalid_to v2 w0 HD.out F2.out).mono ?_
  rintro e w2 ⟨rfl, hw2⟩
  subst hw2
  cases v1
  · rw [makeS_none (by rw [F1.out]; rfl)] at hr
    cases hr.out
    have f0 := HF0.out.f0; have f1 := HF0.out.f1
    have q0 := HF0.out.c0; have q1 := HF0.out.c1
    go_wp2
    refine bodyPost_ret (results_row_tmp (p := 4) (u := 5) (by kernel_rfl) _ _ w.heap.size _ _ rfl (HF0.out.put _ _)) rfl ?_
    exact ⟨rfl, HB0.put (Nat.le_refl _) _ _⟩
  · cases v2
    · rw [makeS_none (by rw [F1.out, F2.out]; rfl)] at hr
      cases hr.out
      have f0 := HF0.out.f0; have f1 := HF0.out.f1
      have q0 := HF0.out.c0; have q1 := HF0.out.c1
      go_wp2
      refine bodyPost_ret (results_row_tmp (p := 4) (u := 5) (by kernel_rfl) _ _ w.heap.size _ _ rfl (HF0.out.put _ _)) rfl ?_
      exact ⟨rfl, HB0.put (Nat.le_refl _) _ _⟩
    · rw [makeS_some F1.out F2.out] at hr
      have In : Is n (num n.data.toList) := Is.of_valid F1.out
      have Id : Is d (num d.data.toList) := Is.of_valid F2.out
      have bN := num_lt F1.out
      have bD := num_lt F2.out
      revert hr In Id bN bD
      generalize num n.data.toList = N
      generalize num d.data.toList = D
      intro hr In Id bN bD
      by_cases hD : D = 0
      · subst hD
        obtain rfl : d = ⟨#[48]⟩ := (Is.inj Id Is.zero).2 rfl
        cases hr.out
        clear In Id bN bD
        have f0 := HF0.out.f0; have f1 := HF0.out.f1
        have q0 := HF0.out.c0; have q1 := HF0.out.c1
        go_wp2
        refine bodyPost_ret (results_row_tmp (p := 4) (u := 5) (by kernel_rfl) _ _ w.heap.size _ _ rfl (HF0.out.put _ _)) rfl ?_
        exact ⟨rfl, HB0.put (Nat.le_refl _) _ _⟩
      · have hz := zero_ne Id hD
        rw [makeR_some hD] at hr
        obtain ⟨hu, hv, rfl⟩ : u = sx (Rat.divInt N D).num ∧ v = sx ((Rat.divInt N D).den : Int) ∧ c = 0 := by
          have e := hr.out
          unfold out nS dS cS at e
          simp only [Prod.mk.injEq] at e
          exact ⟨e.1.symm, e.2.1.symm, e.2.2.symm⟩
        have Iu : Is u (Rat.divInt N D).num := hu
        have Iv : Is v ((Rat.divInt N D).den : Int) := hv
        clear hr hu hv
        rcases Int.lt_or_gt_of_ne hD with hs | hs
        · have F3 : Hid (cmpS d.data.toList (⟨#[48]⟩ : ByteArray).data.toList = -1) := (cmp_is Id Is.zero bD lim_zero).trans (sgn_of_lt (by omega))
          obtain ⟨n', In'⟩ := Is.exists (0 - N)
          obtain ⟨d', Id'⟩ := Is.exists (0 - D)
          have F4 : Hid (subS (⟨#[48]⟩ : ByteArray).data.toList n.data.toList = (n'.data.toList, 0)) := sub_is Is.zero In In' lim_zero bN (by omega) rfl
          have F5 : Hid (subS (⟨#[48]⟩ : ByteArray).data.toList d.data.toList = (d'.data.toList, 0)) := sub_is Is.zero Id Id' lim_zero bD (by omega) rfl
          have HN' : Hid (n'.size ≤ 1000) := Is.size In' (by omega)
          have HD' : Hid (d'.size ≤ 1000) := Is.size Id' (by omega)
          obtain ⟨g, Ig⟩ := Is.exists (Int.gcd (0 - N) (0 - D) : Int)
          obtain ⟨s1, Is1⟩ := Is.exists ((0 - N) % (Int.gcd (0 - N) (0 - D) : Int))
          obtain ⟨s2, Is2⟩ := Is.exists ((0 - D) % (Int.gcd (0 - N) (0 - D) : Int))
          have bg : (Int.gcd (0 - N) (0 - D) : Int).natAbs < limit := by have := gcd_le_limit (x := (0 - N)) (y := (0 - D)) (by omega) (by omega); rw [Int.natAbs_natCast]; exact this
          have G1 : Hid (gcdS n'.data.toList d'.data.toList = (g.data.toList, 0)) := gcd_is In' Id' Ig (by omega) (by omega) rfl
          have HGs : Hid (g.size ≤ 1000) := Is.size Ig bg
          have G2 : Hid (divS n'.data.toList g.data.toList = (u.data.toList, s1.data.toList, 0)) := div_is In' Ig Iu Is1 (by omega) bg (red_exact (by omega)) (by rw [divInt_neg]; exact (red_low (by omega)).1) rfl
          have G3 : Hid (divS d'.data.toList g.data.toList = (v.data.toList, s2.data.toList, 0)) := div_is Id' Ig Iv Is2 (by omega) bg (red_exact (by omega)) (by rw [divInt_neg]; exact (red_low (by omega)).2) rfl
          clear In Id bN bD hD hs Ig Is1 Is2 bg Iu Iv In' Id'
          go_wp2_with fail
          refine (rcompare_any d _ HD.out (by decide) w0 (-1) F3).mono ?_
          rintro e w3 ⟨rfl, hb3⟩
          have HB3 : Since w0 w3 := hb3
          go_wp2_with fail
          refine ((rsub_any _ n (by decide) HN.out w3 n' 0 F4).mono fun _ _ h => since_mk HB3 h).mono ?_
          rintro e w4 ⟨rfl, HB4⟩
          go_wp2_with fail
          refine ((rsub_any _ d (by decide) HD.out w4 d' 0 F5).mono fun _ _ h => since_mk HB4 h).mono ?_
          rintro e w5 ⟨rfl, HB5⟩
          go_wp2_with fail
          refine ((rgcd_any n' d' HN'.out HD'.out w5 g 0 G1).mono fun _ _ h => since_mk HB5 h).mono ?_
          rintro e w6 ⟨rfl, HB6⟩
          go_wp2_with fail
          refine ((rdiv_any n' g HN'.out HGs.out w6 u s1 0 G2).mono fun _ _ h => since_mk HB6 h).mono ?_
          rintro e w7 ⟨rfl, HB7⟩
          go_wp2_with fail
          refine ((rdiv_any d' g HD'.out HGs.out w7 v s2 0 G3).mono fun _ _ h => since_mk HB7 h).mono ?_
          rintro e w8 ⟨rfl, HB8⟩
          have HF8 : Hid (FB w8 w.heap.size ⟨#[]⟩ ⟨#[]⟩) := HF0.out.below HB8.out HF0.out.lt
          have HB9 : Since w w8 := HB0.next HB8.out
          have f0 := HF8.out.f0; have f1 := HF8.out.f1
          have q0 := HF8.out.c0; have q1 := HF8.out.c1
          go_wp2
          refine bodyPost_ret (results_row_tmp (p := 4) (u := 5) (by kernel_rfl) _ _ w.heap.size _ _ rfl (HF8.out.put _ _)) rfl ?_
          exact ⟨rfl, HB9.put (Nat.le_refl _) _ _⟩
        · have F3 : Hid (cmpS d.data.toList (⟨#[48]⟩ : ByteArray).data.toList = 1) := (cmp_is Id Is.zero bD lim_zero).trans (sgn_of_gt (by omega))
          obtain ⟨g, Ig⟩ := Is.exists (Int.gcd N D : Int)
          obtain ⟨s1, Is1⟩ := Is.exists (N % (Int.gcd N D : Int))
          obtain ⟨s2, Is2⟩ := Is.exists (D % (Int.gcd N D : Int))
          have bg : (Int.gcd N D : Int).natAbs < limit := by have := gcd_le_limit (x := N) (y := D) (by omega) (by omega); rw [Int.natAbs_natCast]; exact this
          have G1 : Hid (gcdS n.data.toList d.data.toList = (g.data.toList, 0)) := gcd_is In Id Ig (by omega) (by omega) rfl
          have HGs : Hid (g.size ≤ 1000) := Is.size Ig bg
          have G2 : Hid (divS n.data.toList g.data.toList = (u.data.toList, s1.data.toList, 0)) := div_is In Ig Iu Is1 (by omega) bg (red_exact (by omega)) (by exact (red_low (by omega)).1) rfl
          have G3 : Hid (divS d.data.toList g.data.toList = (v.data.toList, s2.data.toList, 0)) := div_is Id Ig Iv Is2 (by omega) bg (red_exact (by omega)) (by exact (red_low (by omega)).2) rfl
          clear In Id bN bD hD hs Ig Is1 Is2 bg Iu Iv
          go_wp2_with fail
          refine (rcompare_any d _ HD.out (by decide) w0 1 F3).mono ?_
          rintro e w5 ⟨rfl, hb5⟩
          have HB5 : Since w0 w5 := hb5
          go_wp2_with fail
          refine ((rgcd_any n d HN.out HD.out w5 g 0 G1).mono fun _ _ h => since_mk HB5 h).mono ?_
          rintro e w6 ⟨rfl, HB6⟩
          go_wp2_with fail
          refine ((rdiv_any n g HN.out HGs.out w6 u s1 0 G2).mono fun _ _ h => since_mk HB6 h).mono ?_
          rintro e w7 ⟨rfl, HB7⟩
          go_wp2_with fail
          refine ((rdiv_any d g HD.out HGs.out w7 v s2 0 G3).mono fun _ _ h => since_mk HB7 h).mono ?_
          rintro e w8 ⟨rfl, HB8⟩
          have HF8 : Hid (FB w8 w.heap.size ⟨#[]⟩ ⟨#[]⟩) := HF0.out.below HB8.out HF0.out.lt
          have HB9 : Since w w8 := HB0.next HB8.out
          have f0 := HF8.out.f0; have f1 := HF8.out.f1
          have q0 := HF8.out.c0; have q1 := HF8.out.c1
          go_wp2
          refine bodyPost_ret (results_row_tmp (p := 4) (u := 5) (by kernel_rfl) _ _ w.heap.size _ _ rfl (HF8.out.put _ _)) rfl ?_
          exact ⟨rfl, HB9.put (Nat.le_refl _) _ _⟩

set_option maxHeartbeats 1000000 in
set_option maxRecDepth 100000 in
theorem qof_any (N D : Int) (u v : ByteArray) (c : Int) (w : World) (hN : Hid (-9223372036854775808 ≤ N ∧ N ≤ 9223372036854775807)) (hD : Hid (-9223372036854775808 ≤ D ∧ D ≤ 9223372036854775807)) (hr : Hid (out (makeR N D) = (u, v, c))) :
    Calls Tryz.prog 44 #[.int .i64 N, .int .i64 D] w (RedPost w u v c) := by
  have HF0 : Hid (FB (w.alloc (.cells #[.string ⟨#[]⟩, .string ⟨#[]⟩] 26)) w.heap.size ⟨#[]⟩ ⟨#[]⟩) := FB.new w _ _
  have HB0 : Since w (w.alloc (.cells #[.string ⟨#[]⟩, .string ⟨#[]⟩] 26)) := (Below.refl _ w).alloc (Nat.le_refl _) _
  obtain ⟨n, In⟩ := Is.exists N
  obtain ⟨d, Id⟩ := Is.exists D
  have HN := Lib.hid (Is.size In (i64_limit hN.out.1 hN.out.2))
  have HD := Lib.hid (Is.size Id (i64_limit hD.out.1 hD.out.2))
  have HR : Hid (out (makeS n.data.toList d.data.toList) = (u, v, c)) := by
    show out _ = _
    rw [In.list, Id.list, make_str (i64_limit hN.out.1 hN.out.2) (i64_limit hD.out.1 hD.out.2)]; exact hr.out
  have HI : Hid (Is n N ∧ Is d D) := ⟨In, Id⟩
  clear In Id hr
  go_enter Tryz.func44, Tryz.ntmps44
  go_wp2_with fail
  generalize w.alloc (.cells #[.string ⟨#[]⟩, .string ⟨#[]⟩] 26) = w00 at HF0 HB0 ⊢
  refine ((rfrom_any N hN.out.1 hN.out.2 w00).mono fun _ _ h => since_mk (Since.refl w00) h).mono ?_
  rw [show (⟨(str N).toArray⟩ : ByteArray) = n from HI.out.1.symm]
  rintro e w1 ⟨rfl, hb1⟩
  have HB1 : Since w w1 := HB0.next hb1.out
  have HF1 : Hid (FB w1 w.heap.size ⟨#[]⟩ ⟨#[]⟩) := HF0.out.below hb1.out HF0.out.lt
  clear hb1 HF0 HB0
  go_wp2_with fail
  refine ((rfrom_any D hD.out.1 hD.out.2 w1).mono fun _ _ h => since_mk (Since.refl w1) h).mono ?_
  rw [show (⟨(str D).toArray⟩ : ByteArray) = d from HI.out.2.symm]
  rintro e w2 ⟨rfl, hb2⟩
  have HB2 : Since w w2 := HB1.next hb2.out
  have HF2 : Hid (FB w2 w.heap.size ⟨#[]⟩ ⟨#[]⟩) := HF1.out.below hb2.out HF1.out.lt
  clear hb2 HF1 HB1
  go_wp2_with fail
  refine (qmake_any n d u v c w2 HN.out HD.out HR).mono ?_
  rintro e w9 ⟨rfl, hb9⟩
  have HF9 : Hid (FB w9 w.heap.size ⟨#[]⟩ ⟨#[]⟩) := HF2.out.below hb9.out HF2.out.lt
  have HB9 : Since w w9 := HB2.next hb9.out
  have f0 := HF9.out.f0
  have f1 := HF9.out.f1
  have q0 := HF9.out.c0
  have q1 := HF9.out.c1
  go_wp2
  refine bodyPost_ret (results_row_tmp (p := 4) (u := 5) (by kernel_rfl) _ _ w.heap.size _ _ rfl (HF9.out.put _ _)) rfl ?_
  exact ⟨rfl, HB9.put (Nat.le_refl _) _ _⟩

end Go.Proofs.Tryz
