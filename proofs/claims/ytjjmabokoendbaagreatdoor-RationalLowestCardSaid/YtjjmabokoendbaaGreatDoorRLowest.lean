/- RationalLowest returns true: fractions are in lowest terms. -/
import Derived.Test.YtjjmabokoendbaaGreatDoorLB
namespace Go.Proofs.Tryz
open Go.RowKit Go.Shelf Go.Proofs.Dt

theorem long_lim {q : Rat} (h : q.num.natAbs < 10 ^ 100 ∧ q.den < 10 ^ 100) : q.num.natAbs < 10 ^ 100 ∧ (q.den : Int).natAbs < 10 ^ 100 := ⟨h.1, by rw [Int.natAbs_natCast]; exact h.2⟩

set_option maxHeartbeats 4000000 in
set_option maxRecDepth 100000 in
theorem rationalLowest_any (a0 a1 a2 a3 fac : Int) (sign : Bool) (w : World) (ht : Tab w) (hm : Lens w) (hi : ∀ x ∈ [a0, a1, a2, a3, fac], I64 x) :
    Calls Tryz.prog 6 #[.agg #[.int .i64 a0, .int .i64 a1, .int .i64 a2, .int .i64 a3], .int .i64 fac, .bool sign] w fun e w' => e = .returned (.bool true) ∧ Below w.heap.size w w' := by
  have HT := Lib.hid ht
  have HM := Lib.hid hm
  have HI := Lib.hid hi
  clear ht hm hi
  have FA0 : Hid (AB4 (w.alloc (.cells #[.int .i64 a0, .int .i64 a1, .int .i64 a2, .int .i64 a3] 22)) w.heap.size a0 a1 a2 a3) := alloc_get w _ _ _ rfl
  have HB0 : Since w (w.alloc (.cells #[.int .i64 a0, .int .i64 a1, .int .i64 a2, .int .i64 a3] 22)) := (Below.refl _ w).alloc (Nat.le_refl _) _
  have mixed : Tryz.prog.follows .mixedOrders = true := by kernel_rfl
  go_enter Tryz.func6, Tryz.ntmps6
  go_wp2_with fail
  generalize (w.alloc (.cells #[.int .i64 a0, .int .i64 a1, .int .i64 a2, .int .i64 a3] 22)) = W0 at FA0 HB0 ⊢
  refine (sane_to w W0 HT HM HB0).mono ?_
  rintro e w1 ⟨rfl, hb1⟩
  have hc1 : Since W0 w1 := hb1
  have HB1 : Since w w1 := HB0.next hc1.out
  have FA1 : Hid (AB4 w1 w.heap.size a0 a1 a2 a3) := FA0.out.below hc1.out FA0.out.lt
  clear hb1 hc1 FA0
  have r0A := FA1.out.c0; have r1A := FA1.out.c1; have r2A := FA1.out.c2; have r3A := FA1.out.c3
  go_wp2_with fail
  clear r0A r1A r2A r3A
  refine (long_any a0 a1 a2 a3 w1 (HI.out a0 (by simp)) (HI.out a1 (by simp)) (HI.out a2 (by simp)) (HI.out a3 (by simp))).mono ?_
  rintro e w2 ⟨x1, y1, R, rfl, HR, hb2⟩
  have hc2 : Since w1 w2 := hb2
  have HB2 : Since w w2 := HB1.next hc2.out
  have FA2 : Hid (AB4 w2 w.heap.size a0 a1 a2 a3) := FA1.out.below hc2.out FA1.out.lt
  clear hb2 hc2 FA1 HB1
  clear FA2
  obtain ⟨p, hp⟩ : ∃ p, p = pickZ fac 1000000 := ⟨_, rfl⟩
  have bp := pickZ_in fac (n := 1000000) (by decide)
  rw [← hp] at bp
  have HP : Hid (∀ W, Calls Tryz.prog 19 #[.int .i64 fac, .int .i64 1000000] W fun e w' => e = .returned (.int .i64 p) ∧ Since W w') := fun W => by
    rw [hp]; exact (lpick_any fac 1000000 (HI.out fac (by simp)) (by decide) (by decide) W).mono fun e w' h => ⟨h.1, by rw [← h.2]; exact Since.refl W⟩
  obtain ⟨k, hk⟩ : ∃ k, k = if sign then -(1 + p) else 1 + p := ⟨_, rfl⟩
  have bk : k ≠ 0 ∧ k.natAbs < 10 ^ 7 := by rw [hk]; cases sign <;> simp <;> omega
  have HKs := Lib.hid hk
  clear hp hk
  have hA3 : Since w2 (w2.alloc (.cells #[.string x1, .string y1] 26)) := (Below.refl _ w2).alloc (Nat.le_refl _) _
  have HB3 : Since w (w2.alloc (.cells #[.string x1, .string y1] 26)) := HB2.next hA3.out
  have Fr3 : Hid (FB (w2.alloc (.cells #[.string x1, .string y1] 26)) w2.heap.size x1 y1) := FB.new _ _ _
  clear hA3  HB2
  go_wp2_with fail
  generalize (w2.alloc (.cells #[.string x1, .string y1] 26)) = w3 at Fr3 HB3 ⊢
  refine (HP.out w3).mono ?_
  rintro e w4 ⟨rfl, hb4⟩
  have hc4 : Since w3 w4 := hb4
  have HB4 : Since w w4 := HB3.next hc4.out
  have Fr4 : Hid (FB w4 w2.heap.size x1 y1) := Fr3.out.below hc4.out Fr3.out.lt
  clear hb4 hc4 Fr3 HB3
  go_upto_if 27 with fail
  go_cut [9] from 21 (fun s9 W => s9 = .int .i64 k ∧ Since w4 W)
  case first =>
    have hk : k = if sign then -(1 + p) else 1 + p := HKs.out
    cases sign
    · simp at hk
      subst hk
      go_wp2_with fail
      go_meet
      case rel => exact ⟨rfl, Since.refl _⟩
    · simp at hk
      subst hk
      go_wp2_with fail
      go_meet
      case rel => exact ⟨rfl, Since.refl _⟩
  case rest =>
    obtain ⟨h9, hc5⟩ := hcut
    have HB5 : Since w wc := HB4.next hc5.out
    have Fr5 : Hid (FB wc w2.heap.size x1 y1) := Fr4.out.below hc5.out Fr4.out.lt
    clear hc5 Fr4 HB4
    generalize wc = w5 at Fr5 HB5 ⊢
    subst h9
    clear HKs bp
    obtain ⟨b, Ib⟩ := Is.exists k
    obtain ⟨nn, In⟩ := Is.exists (R.num * k)
    obtain ⟨dd, Id⟩ := Is.exists ((R.den : Int) * k)
    have hR := long_lim HR.out.2
    have lk : k.natAbs < limit := small_limit (by omega)
    have lN : (R.num * k).natAbs < limit := Go.Proofs.Dt.lim_mul (j := 7) hR.1 bk.2 (by decide)
    have lD : ((R.den : Int) * k).natAbs < limit := Go.Proofs.Dt.lim_mul (j := 7) hR.2 bk.2 (by decide)
    have FR := HR.out.1
    have lx : R.num.natAbs < limit := FR.2.2.1
    have ly : (R.den : Int).natAbs < limit := den_lim FR.2.2.2
    have Ix : Is x1 R.num := FR.1
    have Iy : Is y1 (R.den : Int) := FR.2.1
    have F1 : Hid (mulS x1.data.toList b.data.toList = (nn.data.toList, 0)) := mul_is Ix Ib In lx lk lN rfl
    have F2 : Hid (mulS y1.data.toList b.data.toList = (dd.data.toList, 0)) := mul_is Iy Ib Id ly lk lD rfl
    have E1 : Hid (out (makeS nn.data.toList dd.data.toList) = (x1, y1, 0)) := by
      show out _ = _
      rw [In.list, Id.list, make_str lN lD, makeR_some (Int.mul_ne_zero (den_ne R) bk.1), Rat.divInt_mul_right bk.1, Rat.num_divInt_den]; exact out_fr FR
    have E2 : Hid (out (makeS x1.data.toList y1.data.toList) = (x1, y1, 0)) := by
      show out _ = _
      rw [Ix.list, Iy.list, make_str lx ly, makeR_some (den_ne R), Rat.num_divInt_den]; exact out_fr FR
    have E3 : Hid (out (makeS (⟨#[48]⟩ : ByteArray).data.toList b.data.toList) = ((⟨#[48]⟩ : ByteArray), (⟨#[49]⟩ : ByteArray), 0)) := by
      show out _ = _
      rw [Is.zero.list, Ib.list, make_str (N := 0) lim_zero lk, makeR_some bk.1, Rat.zero_divInt]; exact out_fr fr_zero
    have E4 : Hid (validR x1.data.toList y1.data.toList = true) := by
      show _ = true
      rw [← frac_isSome, FR.frac]; rfl
    have E5 : Hid (cmpO (frac x1.data.toList y1.data.toList) (frac x1.data.toList y1.data.toList) = 0) := (cmpO_fr FR FR).trans (cmpR_self R)
    obtain ⟨z, hz⟩ : ∃ z : ByteArray, z.data.toList = printL x1.data.toList y1.data.toList := ⟨⟨(printL x1.data.toList y1.data.toList).toArray⟩, rfl⟩
    have E6 := Lib.hid hz
    have S1 := Lib.hid (frac_size FR)
    have S2 := Lib.hid (Is.size Ib lk)
    have hkI : Hid (I64 k ∧ (⟨(str k).toArray⟩ : ByteArray) = b) := ⟨by show _ ∧ _; omega, Ib.symm⟩
    clear Ib In Id hR lk lN lD FR lx ly Ix Iy bk hz HR
    go_wp2_with fail
    refine ((rfrom_any k hkI.out.1.1 hkI.out.1.2 w5).mono fun _ _ h => since_mk (Since.refl w5) h).mono ?_
    rw [hkI.out.2]
    rintro e w6 ⟨rfl, hb6⟩
    have hc6 : Since w5 w6 := hb6
    have HB6 : Since w w6 := HB5.next hc6.out
    have Fr6 : Hid (FB w6 w2.heap.size x1 y1) := Fr5.out.below hc6.out Fr5.out.lt
    clear hb6 hc6 Fr5 HB5
    have r0r := Fr6.out.c0; have r1r := Fr6.out.c1
    go_wp2_with fail
    clear r0r r1r
    refine ((rmul_any x1 b S1.out.1 S2.out w6 nn 0 F1).mono fun _ _ h => since_mk (Since.refl w6) h).mono ?_
    rintro e w7 ⟨rfl, hb7⟩
    have hc7 : Since w6 w7 := hb7
    have HB7 : Since w w7 := HB6.next hc7.out
    have Fr7 : Hid (FB w7 w2.heap.size x1 y1) := Fr6.out.below hc7.out Fr6.out.lt
    clear hb7 hc7 Fr6 HB6
    have r0r := Fr7.out.c0; have r1r := Fr7.out.c1
    go_wp2_with fail
    clear r0r r1r
    refine ((rmul_any y1 b S1.out.2 S2.out w7 dd 0 F2).mono fun _ _ h => since_mk (Since.refl w7) h).mono ?_
    rintro e w8 ⟨rfl, hb8⟩
    have hc8 : Since w7 w8 := hb8
    have HB8 : Since w w8 := HB7.next hc8.out
    have Fr8 : Hid (FB w8 w2.heap.size x1 y1) := Fr7.out.below hc8.out Fr7.out.lt
    clear hb8 hc8 Fr7 HB7
    go_wp2_with fail
    refine (fmake_any nn dd x1 y1 0 w8 (HB8.tab HT) E1).mono ?_
    rintro e w9 ⟨rfl, hb9⟩
    have hc9 : Since w8 w9 := hb9
    have HB9 : Since w w9 := HB8.next hc9.out
    have Fr9 : Hid (FB w9 w2.heap.size x1 y1) := Fr8.out.below hc9.out Fr8.out.lt
    clear hb9 hc9 Fr8 HB8
    have hA10 : Since w9 (w9.alloc (.cells #[.string x1, .string y1] 26)) := (Below.refl _ w9).alloc (Nat.le_refl _) _
    have Fr10 : Hid (FB (w9.alloc (.cells #[.string x1, .string y1] 26)) w2.heap.size x1 y1) := Fr9.out.below hA10.out Fr9.out.lt
    have HB10 : Since w (w9.alloc (.cells #[.string x1, .string y1] 26)) := HB9.next hA10.out
    have Fa10 : Hid (FB (w9.alloc (.cells #[.string x1, .string y1] 26)) w9.heap.size x1 y1) := FB.new _ _ _
    clear hA10 Fr9 HB9
    have r0r := Fr10.out.c0; have r1r := Fr10.out.c1
    go_wp2_with fail
    clear r0r r1r
    generalize (w9.alloc (.cells #[.string x1, .string y1] 26)) = w10 at Fr10 Fa10 HB10 ⊢
    refine (fmake_any x1 y1 x1 y1 0 w10 (HB10.tab HT) E2).mono ?_
    rintro e w11 ⟨rfl, hb11⟩
    have hc11 : Since w10 w11 := hb11
    have HB11 : Since w w11 := HB10.next hc11.out
    have Fr11 : Hid (FB w11 w2.heap.size x1 y1) := Fr10.out.below hc11.out Fr10.out.lt
    have Fa11 : Hid (FB w11 w9.heap.size x1 y1) := Fa10.out.below hc11.out Fa10.out.lt
    clear hb11 hc11 Fr10 Fa10 HB10
    have hA12 : Since w11 (w11.alloc (.cells #[.string x1, .string y1] 26)) := (Below.refl _ w11).alloc (Nat.le_refl _) _
    have Fr12 : Hid (FB (w11.alloc (.cells #[.string x1, .string y1] 26)) w2.heap.size x1 y1) := Fr11.out.below hA12.out Fr11.out.lt
    have Fa12 : Hid (FB (w11.alloc (.cells #[.string x1, .string y1] 26)) w9.heap.size x1 y1) := Fa11.out.below hA12.out Fa11.out.lt
    have HB12 : Since w (w11.alloc (.cells #[.string x1, .string y1] 26)) := HB11.next hA12.out
    have Fb12 : Hid (FB (w11.alloc (.cells #[.string x1, .string y1] 26)) w11.heap.size x1 y1) := FB.new _ _ _
    clear hA12 Fr11 Fa11 HB11
    go_wp2_with fail
    generalize (w11.alloc (.cells #[.string x1, .string y1] 26)) = w12 at Fr12 Fa12 Fb12 HB12 ⊢
    refine (fmake_any _ b _ _ 0 w12 (HB12.tab HT) E3).mono ?_
    rintro e w13 ⟨rfl, hb13⟩
    have hc13 : Since w12 w13 := hb13
    have HB13 : Since w w13 := HB12.next hc13.out
    have Fr13 : Hid (FB w13 w2.heap.size x1 y1) := Fr12.out.below hc13.out Fr12.out.lt
    have Fa13 : Hid (FB w13 w9.heap.size x1 y1) := Fa12.out.below hc13.out Fa12.out.lt
    have Fb13 : Hid (FB w13 w11.heap.size x1 y1) := Fb12.out.below hc13.out Fb12.out.lt
    clear hb13 hc13 Fr12 Fa12 Fb12 HB12
    have hA14 : Since w13 (w13.alloc (.cells #[.string (⟨#[48]⟩ : ByteArray), .string (⟨#[49]⟩ : ByteArray)] 26)) := (Below.refl _ w13).alloc (Nat.le_refl _) _
    have Fr14 : Hid (FB (w13.alloc (.cells #[.string (⟨#[48]⟩ : ByteArray), .string (⟨#[49]⟩ : ByteArray)] 26)) w2.heap.size x1 y1) := Fr13.out.below hA14.out Fr13.out.lt
    have Fa14 : Hid (FB (w13.alloc (.cells #[.string (⟨#[48]⟩ : ByteArray), .string (⟨#[49]⟩ : ByteArray)] 26)) w9.heap.size x1 y1) := Fa13.out.below hA14.out Fa13.out.lt
    have Fb14 : Hid (FB (w13.alloc (.cells #[.string (⟨#[48]⟩ : ByteArray), .string (⟨#[49]⟩ : ByteArray)] 26)) w11.heap.size x1 y1) := Fb13.out.below hA14.out Fb13.out.lt
    have HB14 : Since w (w13.alloc (.cells #[.string (⟨#[48]⟩ : ByteArray), .string (⟨#[49]⟩ : ByteArray)] 26)) := HB13.next hA14.out
    have Fz14 : Hid (FB (w13.alloc (.cells #[.string (⟨#[48]⟩ : ByteArray), .string (⟨#[49]⟩ : ByteArray)] 26)) w13.heap.size (⟨#[48]⟩ : ByteArray) (⟨#[49]⟩ : ByteArray)) := FB.new _ _ _
    clear hA14 Fr13 Fa13 Fb13 HB13
    go_upto_region 12 with fail
    generalize (w13.alloc (.cells #[.string (⟨#[48]⟩ : ByteArray), .string (⟨#[49]⟩ : ByteArray)] 26)) = w14 at Fr14 Fa14 Fb14 Fz14 HB14 ⊢
    have HTa : Hid (Tab w14) := HB14.tab HT
    have HSall : Hid (∀ W', Since w14 W' → Since w14 W' ∧ W'.cell? ⟨w2.heap.size, 0, none⟩ = some (.string x1) ∧ W'.cell? ⟨w2.heap.size, 1, none⟩ = some (.string y1) ∧ W'.cell? ⟨w9.heap.size, 0, none⟩ = some (.string x1) ∧ W'.cell? ⟨w9.heap.size, 1, none⟩ = some (.string y1) ∧ W'.cell? ⟨w11.heap.size, 0, none⟩ = some (.string x1) ∧ W'.cell? ⟨w11.heap.size, 1, none⟩ = some (.string y1) ∧ W'.cell? ⟨w13.heap.size, 0, none⟩ = some (.string (⟨#[48]⟩ : ByteArray)) ∧ W'.cell? ⟨w13.heap.size, 1, none⟩ = some (.string (⟨#[49]⟩ : ByteArray))) := by
      intro W' h
      have gr := Fr14.out.below h.out Fr14.out.lt
      have ga := Fa14.out.below h.out Fa14.out.lt
      have gb := Fb14.out.below h.out Fb14.out.lt
      have gz := Fz14.out.below h.out Fz14.out.lt
      exact ⟨h, gr.c0, gr.c1, ga.c0, ga.c1, gb.c0, gb.c1, gz.c0, gz.c1⟩
    have HPd := HSall.out w14.drew (Since.refl w14).out.drew
    go_region_held3 (fun W' => Since w14 W' ∧ W'.cell? ⟨w2.heap.size, 0, none⟩ = some (.string x1) ∧ W'.cell? ⟨w2.heap.size, 1, none⟩ = some (.string y1) ∧ W'.cell? ⟨w9.heap.size, 0, none⟩ = some (.string x1) ∧ W'.cell? ⟨w9.heap.size, 1, none⟩ = some (.string y1) ∧ W'.cell? ⟨w11.heap.size, 0, none⟩ = some (.string x1) ∧ W'.cell? ⟨w11.heap.size, 1, none⟩ = some (.string y1) ∧ W'.cell? ⟨w13.heap.size, 0, none⟩ = some (.string (⟨#[48]⟩ : ByteArray)) ∧ W'.cell? ⟨w13.heap.size, 1, none⟩ = some (.string (⟨#[49]⟩ : ByteArray)))
      (first | assumption | exact HSall.out _ (sk_next (by assumption) HB2))
      (first
        | (go_at_call 16; refine (is_any _ _ _).mono ?_; rintro e W2 ⟨rfl, HB2⟩)
        | (go_at_call 27; with_reducible refine Calls.mono (fvalid_to x1 y1 true _ (sk_tab HTa (by assumption)) E4) ?_; rintro e W2 ⟨rfl, HB2⟩)
        | (go_at_call 14; with_reducible refine Calls.mono (fcmp_any x1 y1 x1 y1 0 _ (sk_tab HTa (by assumption)) E5) ?_; rintro e W2 ⟨rfl, HB2⟩)
        | (go_at_call 24; with_reducible refine Calls.mono (fprint_any x1 y1 z _ (sk_tab HTa (by assumption)) E6) ?_; rintro e W2 ⟨rfl, HB2⟩))
    go_wp2
    go_ret
    exact ⟨rfl, (HB14.next (sk_at (by assumption) : Since w14 _).out).out⟩

end Go.Proofs.Tryz
