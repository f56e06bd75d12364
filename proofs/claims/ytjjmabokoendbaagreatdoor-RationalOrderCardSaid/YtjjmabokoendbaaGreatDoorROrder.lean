/- RationalOrder returns true: Compare is a total order of fractions. -/
import Derived.Test.YtjjmabokoendbaaGreatDoorLB
import Derived.Deep.QuietTactic
import Derived.BigQuiet
namespace Go.Proofs.Tryz
open Go.RowKit Go.Shelf Go.Proofs.Dt

theorem long_lim {q : Rat} (h : q.num.natAbs < 10 ^ 100 ∧ q.den < 10 ^ 100) : q.num.natAbs < 10 ^ 100 ∧ (q.den : Int).natAbs < 10 ^ 100 := ⟨h.1, by rw [Int.natAbs_natCast]; exact h.2⟩

/-- The answers of three comparisons. -/
theorem order_cases {A B C : Rat} {ab bc ac : Int} (h1 : cmpR A B = ab) (h2 : cmpR B C = bc) (h3 : cmpR A C = ac) :
    (A ≠ B ∧ ab = -1 ∧ ((bc = -1 ∧ ac = -1) ∨ (bc = 0 ∧ ac = -1) ∨ bc = 1)) ∨ (A = B ∧ ab = 0 ∧ ((bc = -1 ∧ ac = -1) ∨ (bc = 0 ∧ ac = 0) ∨ bc = 1)) ∨ (A ≠ B ∧ ab = 1) := by
  subst h1 h2 h3
  rcases rat_cases A B with h | h | h
  · refine .inl ⟨Rat.ne_of_lt h, cmpR_lt h, ?_⟩
    rcases rat_cases B C with k | k | k
    · exact .inl ⟨cmpR_lt k, cmpR_lt (by grind)⟩
    · subst k; exact .inr (.inl ⟨cmpR_self _, cmpR_lt h⟩)
    · exact .inr (.inr (cmpR_gt k))
  · subst h
    refine .inr (.inl ⟨rfl, cmpR_self _, ?_⟩)
    rcases rat_cases A C with k | k | k
    · exact .inl ⟨cmpR_lt k, cmpR_lt k⟩
    · subst k; exact .inr (.inl ⟨cmpR_self _, cmpR_self _⟩)
    · exact .inr (.inr (cmpR_gt k))
  · exact .inr (.inr ⟨fun e => Rat.ne_of_lt h e.symm, cmpR_gt h⟩)

set_option maxHeartbeats 4000000 in
set_option maxRecDepth 100000 in
theorem rationalOrder_any (a0 a1 a2 a3 b0 b1 b2 b3 c0 c1 c2 c3 s0 s1 : Int) (w : World) (ht : Tab w) (hm : Lens w) (hi : ∀ x ∈ [a0, a1, a2, a3, b0, b1, b2, b3, c0, c1, c2, c3, s0, s1], I64 x) :
    Calls Tryz.prog 3 #[.agg #[.int .i64 a0, .int .i64 a1, .int .i64 a2, .int .i64 a3], .agg #[.int .i64 b0, .int .i64 b1, .int .i64 b2, .int .i64 b3], .agg #[.int .i64 c0, .int .i64 c1, .int .i64 c2, .int .i64 c3], .agg #[.int .i64 s0, .int .i64 s1]] w fun e w' => e = .returned (.bool true) ∧ Below w.heap.size w w' := by
  have HT := Lib.hid ht
  have HM := Lib.hid hm
  have HI := Lib.hid hi
  have HBz := Since.refl w
  clear ht hm hi
  have FA0 : Hid (AB4 ((((w.alloc (.cells #[.int .i64 a0, .int .i64 a1, .int .i64 a2, .int .i64 a3] 22)).alloc (.cells #[.int .i64 b0, .int .i64 b1, .int .i64 b2, .int .i64 b3] 22)).alloc (.cells #[.int .i64 c0, .int .i64 c1, .int .i64 c2, .int .i64 c3] 22)).alloc (.cells #[.int .i64 s0, .int .i64 s1] 23)) w.heap.size a0 a1 a2 a3) := alloc_kept (alloc_kept (alloc_kept (alloc_get w _ _ _ rfl) _) _) _
  have FB0 : Hid (AB4 ((((w.alloc (.cells #[.int .i64 a0, .int .i64 a1, .int .i64 a2, .int .i64 a3] 22)).alloc (.cells #[.int .i64 b0, .int .i64 b1, .int .i64 b2, .int .i64 b3] 22)).alloc (.cells #[.int .i64 c0, .int .i64 c1, .int .i64 c2, .int .i64 c3] 22)).alloc (.cells #[.int .i64 s0, .int .i64 s1] 23)) (w.heap.size + 1) b0 b1 b2 b3) := alloc_kept (alloc_kept (alloc_get _ _ _ _ (by simp)) _) _
  have FC0 : Hid (AB4 ((((w.alloc (.cells #[.int .i64 a0, .int .i64 a1, .int .i64 a2, .int .i64 a3] 22)).alloc (.cells #[.int .i64 b0, .int .i64 b1, .int .i64 b2, .int .i64 b3] 22)).alloc (.cells #[.int .i64 c0, .int .i64 c1, .int .i64 c2, .int .i64 c3] 22)).alloc (.cells #[.int .i64 s0, .int .i64 s1] 23)) (w.heap.size + 1 + 1) c0 c1 c2 c3) := alloc_kept (alloc_get _ _ _ _ (by simp)) _
  have FS0 : Hid (AB2 ((((w.alloc (.cells #[.int .i64 a0, .int .i64 a1, .int .i64 a2, .int .i64 a3] 22)).alloc (.cells #[.int .i64 b0, .int .i64 b1, .int .i64 b2, .int .i64 b3] 22)).alloc (.cells #[.int .i64 c0, .int .i64 c1, .int .i64 c2, .int .i64 c3] 22)).alloc (.cells #[.int .i64 s0, .int .i64 s1] 23)) (w.heap.size + 1 + 1 + 1) s0 s1) := alloc_get _ _ _ _ (by simp)
  have HB0 : Since w ((((w.alloc (.cells #[.int .i64 a0, .int .i64 a1, .int .i64 a2, .int .i64 a3] 22)).alloc (.cells #[.int .i64 b0, .int .i64 b1, .int .i64 b2, .int .i64 b3] 22)).alloc (.cells #[.int .i64 c0, .int .i64 c1, .int .i64 c2, .int .i64 c3] 22)).alloc (.cells #[.int .i64 s0, .int .i64 s1] 23)) := ((((Below.refl _ w).alloc (Nat.le_refl _) _).alloc (by simp) _).alloc (by simp; omega) _).alloc (by simp; omega) _
  clear HBz
  have mixed : Tryz.prog.follows .mixedOrders = true := by kernel_rfl
  go_enter Tryz.func3, Tryz.ntmps3
  go_wp2_with fail
  generalize ((((w.alloc (.cells #[.int .i64 a0, .int .i64 a1, .int .i64 a2, .int .i64 a3] 22)).alloc (.cells #[.int .i64 b0, .int .i64 b1, .int .i64 b2, .int .i64 b3] 22)).alloc (.cells #[.int .i64 c0, .int .i64 c1, .int .i64 c2, .int .i64 c3] 22)).alloc (.cells #[.int .i64 s0, .int .i64 s1] 23)) = W0 at FA0 FB0 FC0 FS0 HB0 ⊢
  refine (sane_to w W0 HT HM HB0).mono ?_
  rintro e w1 ⟨rfl, hb1⟩
  have hc1 : Since W0 w1 := hb1
  have HB1 : Since w w1 := HB0.next hc1.out
  have FA1 : Hid (AB4 w1 w.heap.size a0 a1 a2 a3) := FA0.out.below hc1.out FA0.out.lt
  have FB1 : Hid (AB4 w1 (w.heap.size + 1) b0 b1 b2 b3) := FB0.out.below hc1.out FB0.out.lt
  have FC1 : Hid (AB4 w1 (w.heap.size + 1 + 1) c0 c1 c2 c3) := FC0.out.below hc1.out FC0.out.lt
  have FS1 : Hid (AB2 w1 (w.heap.size + 1 + 1 + 1) s0 s1) := FS0.out.below hc1.out FS0.out.lt
  clear hb1 hc1 FA0 FB0 FC0 FS0
  have r0A := FA1.out.c0; have r1A := FA1.out.c1; have r2A := FA1.out.c2; have r3A := FA1.out.c3
  go_wp2_with fail
  clear r0A r1A r2A r3A
  refine (long_any a0 a1 a2 a3 w1 (HI.out a0 (by simp)) (HI.out a1 (by simp)) (HI.out a2 (by simp)) (HI.out a3 (by simp))).mono ?_
  rintro e w2 ⟨x1, y1, A, rfl, HA, hb2⟩
  have hc2 : Since w1 w2 := hb2
  have HB2 : Since w w2 := HB1.next hc2.out
  have FA2 : Hid (AB4 w2 w.heap.size a0 a1 a2 a3) := FA1.out.below hc2.out FA1.out.lt
  have FB2 : Hid (AB4 w2 (w.heap.size + 1) b0 b1 b2 b3) := FB1.out.below hc2.out FB1.out.lt
  have FC2 : Hid (AB4 w2 (w.heap.size + 1 + 1) c0 c1 c2 c3) := FC1.out.below hc2.out FC1.out.lt
  have FS2 : Hid (AB2 w2 (w.heap.size + 1 + 1 + 1) s0 s1) := FS1.out.below hc2.out FS1.out.lt
  clear hb2 hc2 FA1 FB1 FC1 FS1 HB1
  clear FA2
  have hA3 : Since w2 (w2.alloc (.cells #[.string x1, .string y1] 26)) := (Below.refl _ w2).alloc (Nat.le_refl _) _
  have FB3 : Hid (AB4 (w2.alloc (.cells #[.string x1, .string y1] 26)) (w.heap.size + 1) b0 b1 b2 b3) := FB2.out.below hA3.out FB2.out.lt
  have FC3 : Hid (AB4 (w2.alloc (.cells #[.string x1, .string y1] 26)) (w.heap.size + 1 + 1) c0 c1 c2 c3) := FC2.out.below hA3.out FC2.out.lt
  have FS3 : Hid (AB2 (w2.alloc (.cells #[.string x1, .string y1] 26)) (w.heap.size + 1 + 1 + 1) s0 s1) := FS2.out.below hA3.out FS2.out.lt
  have HB3 : Since w (w2.alloc (.cells #[.string x1, .string y1] 26)) := HB2.next hA3.out
  have Ffa3 : Hid (FB (w2.alloc (.cells #[.string x1, .string y1] 26)) w2.heap.size x1 y1) := FB.new _ _ _
  clear hA3 FB2 FC2 FS2 HB2
  have r0B := FB3.out.c0; have r1B := FB3.out.c1; have r2B := FB3.out.c2; have r3B := FB3.out.c3
  go_wp2_with fail
  clear r0B r1B r2B r3B
  generalize (w2.alloc (.cells #[.string x1, .string y1] 26)) = w3 at FB3 FC3 FS3 Ffa3 HB3 ⊢
  refine (long_any b0 b1 b2 b3 w3 (HI.out b0 (by simp)) (HI.out b1 (by simp)) (HI.out b2 (by simp)) (HI.out b3 (by simp))).mono ?_
  rintro e w4 ⟨x2, y2, B, rfl, HB, hb4⟩
  have hc4 : Since w3 w4 := hb4
  have HB4 : Since w w4 := HB3.next hc4.out
  have FB4 : Hid (AB4 w4 (w.heap.size + 1) b0 b1 b2 b3) := FB3.out.below hc4.out FB3.out.lt
  have FC4 : Hid (AB4 w4 (w.heap.size + 1 + 1) c0 c1 c2 c3) := FC3.out.below hc4.out FC3.out.lt
  have FS4 : Hid (AB2 w4 (w.heap.size + 1 + 1 + 1) s0 s1) := FS3.out.below hc4.out FS3.out.lt
  have Ffa4 : Hid (FB w4 w2.heap.size x1 y1) := Ffa3.out.below hc4.out Ffa3.out.lt
  clear hb4 hc4 FB3 FC3 FS3 Ffa3 HB3
  clear FB4
  have hA5 : Since w4 (w4.alloc (.cells #[.string x2, .string y2] 26)) := (Below.refl _ w4).alloc (Nat.le_refl _) _
  have FC5 : Hid (AB4 (w4.alloc (.cells #[.string x2, .string y2] 26)) (w.heap.size + 1 + 1) c0 c1 c2 c3) := FC4.out.below hA5.out FC4.out.lt
  have FS5 : Hid (AB2 (w4.alloc (.cells #[.string x2, .string y2] 26)) (w.heap.size + 1 + 1 + 1) s0 s1) := FS4.out.below hA5.out FS4.out.lt
  have Ffa5 : Hid (FB (w4.alloc (.cells #[.string x2, .string y2] 26)) w2.heap.size x1 y1) := Ffa4.out.below hA5.out Ffa4.out.lt
  have HB5 : Since w (w4.alloc (.cells #[.string x2, .string y2] 26)) := HB4.next hA5.out
  have Ffb5 : Hid (FB (w4.alloc (.cells #[.string x2, .string y2] 26)) w4.heap.size x2 y2) := FB.new _ _ _
  clear hA5 FC4 FS4 Ffa4 HB4
  have r0C := FC5.out.c0; have r1C := FC5.out.c1; have r2C := FC5.out.c2; have r3C := FC5.out.c3
  go_wp2_with fail
  clear r0C r1C r2C r3C
  generalize (w4.alloc (.cells #[.string x2, .string y2] 26)) = w5 at FC5 FS5 Ffa5 Ffb5 HB5 ⊢
  refine (long_any c0 c1 c2 c3 w5 (HI.out c0 (by simp)) (HI.out c1 (by simp)) (HI.out c2 (by simp)) (HI.out c3 (by simp))).mono ?_
  rintro e w6 ⟨x3, y3, C, rfl, HC, hb6⟩
  have hc6 : Since w5 w6 := hb6
  have HB6 : Since w w6 := HB5.next hc6.out
  have FC6 : Hid (AB4 w6 (w.heap.size + 1 + 1) c0 c1 c2 c3) := FC5.out.below hc6.out FC5.out.lt
  have FS6 : Hid (AB2 w6 (w.heap.size + 1 + 1 + 1) s0 s1) := FS5.out.below hc6.out FS5.out.lt
  have Ffa6 : Hid (FB w6 w2.heap.size x1 y1) := Ffa5.out.below hc6.out Ffa5.out.lt
  have Ffb6 : Hid (FB w6 w4.heap.size x2 y2) := Ffb5.out.below hc6.out Ffb5.out.lt
  clear hb6 hc6 FC5 FS5 Ffa5 Ffb5 HB5
  clear FC6
  have hA7 : Since w6 (w6.alloc (.cells #[.string x3, .string y3] 26)) := (Below.refl _ w6).alloc (Nat.le_refl _) _
  have FS7 : Hid (AB2 (w6.alloc (.cells #[.string x3, .string y3] 26)) (w.heap.size + 1 + 1 + 1) s0 s1) := FS6.out.below hA7.out FS6.out.lt
  have Ffa7 : Hid (FB (w6.alloc (.cells #[.string x3, .string y3] 26)) w2.heap.size x1 y1) := Ffa6.out.below hA7.out Ffa6.out.lt
  have Ffb7 : Hid (FB (w6.alloc (.cells #[.string x3, .string y3] 26)) w4.heap.size x2 y2) := Ffb6.out.below hA7.out Ffb6.out.lt
  have HB7 : Since w (w6.alloc (.cells #[.string x3, .string y3] 26)) := HB6.next hA7.out
  have Ffc7 : Hid (FB (w6.alloc (.cells #[.string x3, .string y3] 26)) w6.heap.size x3 y3) := FB.new _ _ _
  clear hA7 FS6 Ffa6 Ffb6 HB6
  have r0S := FS7.out.c0; have r1S := FS7.out.c1
  go_wp2_with fail
  clear r0S r1S
  generalize (w6.alloc (.cells #[.string x3, .string y3] 26)) = w7 at FS7 Ffa7 Ffb7 Ffc7 HB7 ⊢
  refine (small_any s0 s1 w7 (HI.out s0 (by simp)) (HI.out s1 (by simp))).mono ?_
  rintro e w8 ⟨x4, y4, T, rfl, HTq, hb8⟩
  have hc8 : Since w7 w8 := hb8
  have HB8 : Since w w8 := HB7.next hc8.out
  have FS8 : Hid (AB2 w8 (w.heap.size + 1 + 1 + 1) s0 s1) := FS7.out.below hc8.out FS7.out.lt
  have Ffa8 : Hid (FB w8 w2.heap.size x1 y1) := Ffa7.out.below hc8.out Ffa7.out.lt
  have Ffb8 : Hid (FB w8 w4.heap.size x2 y2) := Ffb7.out.below hc8.out Ffb7.out.lt
  have Ffc8 : Hid (FB w8 w6.heap.size x3 y3) := Ffc7.out.below hc8.out Ffc7.out.lt
  clear hb8 hc8 FS7 Ffa7 Ffb7 Ffc7 HB7
  clear FS8
  obtain ⟨ab, hab⟩ : ∃ ab, cmpR A B = ab := ⟨_, rfl⟩
  obtain ⟨bc, hbc⟩ : ∃ bc, cmpR B C = bc := ⟨_, rfl⟩
  obtain ⟨ac, hac⟩ : ∃ ac, cmpR A C = ac := ⟨_, rfl⟩
  have E1 : Hid (cmpO (frac x1.data.toList y1.data.toList) (frac x2.data.toList y2.data.toList) = ab) := (cmpO_fr HA.out.1 HB.out.1).trans hab
  have E2 : Hid (cmpO (frac x2.data.toList y2.data.toList) (frac x3.data.toList y3.data.toList) = bc) := (cmpO_fr HB.out.1 HC.out.1).trans hbc
  have E3 : Hid (cmpO (frac x1.data.toList y1.data.toList) (frac x3.data.toList y3.data.toList) = ac) := (cmpO_fr HA.out.1 HC.out.1).trans hac
  have E4 : Hid (cmpO (frac x2.data.toList y2.data.toList) (frac x1.data.toList y1.data.toList) = -ab) := (cmpO_fr HB.out.1 HA.out.1).trans (by rw [cmpR_neg, hab])
  have E5 : Hid (cmpO (frac x1.data.toList y1.data.toList) (frac x1.data.toList y1.data.toList) = 0) := (cmpO_fr HA.out.1 HA.out.1).trans (cmpR_self A)
  have HCases := Lib.hid (order_cases hab hbc hac)
  have HAB := Lib.hid hab
  have hab1 := sgn_in (A.num * B.den - B.num * A.den)
  rw [show sgn (A.num * B.den - B.num * A.den) = ab from hab] at hab1
  clear hab hbc hac
  have hA9 : Since w8 (w8.alloc (.cells #[.string x4, .string y4] 26)) := (Below.refl _ w8).alloc (Nat.le_refl _) _
  have Ffa9 : Hid (FB (w8.alloc (.cells #[.string x4, .string y4] 26)) w2.heap.size x1 y1) := Ffa8.out.below hA9.out Ffa8.out.lt
  have Ffb9 : Hid (FB (w8.alloc (.cells #[.string x4, .string y4] 26)) w4.heap.size x2 y2) := Ffb8.out.below hA9.out Ffb8.out.lt
  have Ffc9 : Hid (FB (w8.alloc (.cells #[.string x4, .string y4] 26)) w6.heap.size x3 y3) := Ffc8.out.below hA9.out Ffc8.out.lt
  have HB9 : Since w (w8.alloc (.cells #[.string x4, .string y4] 26)) := HB8.next hA9.out
  have Fft9 : Hid (FB (w8.alloc (.cells #[.string x4, .string y4] 26)) w8.heap.size x4 y4) := FB.new _ _ _
  clear hA9 Ffa8 Ffb8 Ffc8 HB8
  have r0fa := Ffa9.out.c0; have r1fa := Ffa9.out.c1
  have r0fb := Ffb9.out.c0; have r1fb := Ffb9.out.c1
  go_wp2_with fail
  clear r0fa r1fa r0fb r1fb
  generalize (w8.alloc (.cells #[.string x4, .string y4] 26)) = w9 at Ffa9 Ffb9 Ffc9 Fft9 HB9 ⊢
  refine (fcmp_any x1 y1 x2 y2 ab w9 (HB9.tab HT) E1).mono ?_
  rintro e w10 ⟨rfl, hb10⟩
  have hc10 : Since w9 w10 := hb10
  have HB10 : Since w w10 := HB9.next hc10.out
  have Ffa10 : Hid (FB w10 w2.heap.size x1 y1) := Ffa9.out.below hc10.out Ffa9.out.lt
  have Ffb10 : Hid (FB w10 w4.heap.size x2 y2) := Ffb9.out.below hc10.out Ffb9.out.lt
  have Ffc10 : Hid (FB w10 w6.heap.size x3 y3) := Ffc9.out.below hc10.out Ffc9.out.lt
  have Fft10 : Hid (FB w10 w8.heap.size x4 y4) := Fft9.out.below hc10.out Fft9.out.lt
  clear hb10 hc10 Ffa9 Ffb9 Ffc9 Fft9 HB9
  have r0fb := Ffb10.out.c0; have r1fb := Ffb10.out.c1
  have r0fc := Ffc10.out.c0; have r1fc := Ffc10.out.c1
  go_wp2_with fail
  clear r0fb r1fb r0fc r1fc
  refine (fcmp_any x2 y2 x3 y3 bc w10 (HB10.tab HT) E2).mono ?_
  rintro e w11 ⟨rfl, hb11⟩
  have hc11 : Since w10 w11 := hb11
  have HB11 : Since w w11 := HB10.next hc11.out
  have Ffa11 : Hid (FB w11 w2.heap.size x1 y1) := Ffa10.out.below hc11.out Ffa10.out.lt
  have Ffb11 : Hid (FB w11 w4.heap.size x2 y2) := Ffb10.out.below hc11.out Ffb10.out.lt
  have Ffc11 : Hid (FB w11 w6.heap.size x3 y3) := Ffc10.out.below hc11.out Ffc10.out.lt
  have Fft11 : Hid (FB w11 w8.heap.size x4 y4) := Fft10.out.below hc11.out Fft10.out.lt
  clear hb11 hc11 Ffa10 Ffb10 Ffc10 Fft10 HB10
  have r0fa := Ffa11.out.c0; have r1fa := Ffa11.out.c1
  have r0fc := Ffc11.out.c0; have r1fc := Ffc11.out.c1
  go_wp2_with fail
  clear r0fa r1fa r0fc r1fc
  refine (fcmp_any x1 y1 x3 y3 ac w11 (HB11.tab HT) E3).mono ?_
  rintro e w12 ⟨rfl, hb12⟩
  have hc12 : Since w11 w12 := hb12
  have HB12 : Since w w12 := HB11.next hc12.out
  have Ffa12 : Hid (FB w12 w2.heap.size x1 y1) := Ffa11.out.below hc12.out Ffa11.out.lt
  have Ffb12 : Hid (FB w12 w4.heap.size x2 y2) := Ffb11.out.below hc12.out Ffb11.out.lt
  have Ffc12 : Hid (FB w12 w6.heap.size x3 y3) := Ffc11.out.below hc12.out Ffc11.out.lt
  have Fft12 : Hid (FB w12 w8.heap.size x4 y4) := Fft11.out.below hc12.out Fft11.out.lt
  clear hb12 hc12 Ffa11 Ffb11 Ffc11 Fft11 HB11
  go_upto_region 9 with fail
  go_cut [14, 92] from 23 (fun s14 s92 W => s14 = .int .i64 ab ∧ s92 = .bool false ∧ Since w12 W)
  case first =>
    rcases HCases.out with ⟨hne, rfl, hr⟩ | ⟨heq, rfl, hr⟩ | ⟨hne, rfl⟩
    · clear HCases HAB
      rcases ne_split (fun e => hne ((HA.out.1.inj HB.out.1).1 e)) with hag | ⟨rfl, hag⟩
      · clear hne
        rcases hr with ⟨rfl, rfl⟩ | ⟨rfl, rfl⟩ | rfl
        · skip
          have r0fa := Ffa12.out.c0; have r1fa := Ffa12.out.c1
          have r0fb := Ffb12.out.c0; have r1fb := Ffb12.out.c1
          go_wp2_with fail
          clear r0fa r1fa r0fb r1fb
          refine (fcmp_any x2 y2 x1 y1 _ w12 (HB12.tab HT) E4).mono ?_
          rintro e w13 ⟨rfl, hb13⟩
          have hc13 : Since w12 w13 := hb13
          have HB13 : Since w w13 := HB12.next hc13.out
          have HS13 : Since w12 w13 := hc13
          have Ffa13 : Hid (FB w13 w2.heap.size x1 y1) := Ffa12.out.below hc13.out Ffa12.out.lt
          have Ffb13 : Hid (FB w13 w4.heap.size x2 y2) := Ffb12.out.below hc13.out Ffb12.out.lt
          have Ffc13 : Hid (FB w13 w6.heap.size x3 y3) := Ffc12.out.below hc13.out Ffc12.out.lt
          have Fft13 : Hid (FB w13 w8.heap.size x4 y4) := Fft12.out.below hc13.out Fft12.out.lt
          clear hb13 hc13 Ffa12 Ffb12 Ffc12 Fft12 HB12
          have r0fa := Ffa13.out.c0; have r1fa := Ffa13.out.c1
          have r0fb := Ffb13.out.c0; have r1fb := Ffb13.out.c1
          go_wp2_with fail
          clear r0fa r1fa r0fb r1fb
          refine (fcmp_any x1 y1 x1 y1 0 w13 (HB13.tab HT) E5).mono ?_
          rintro e w14 ⟨rfl, hb14⟩
          have hc14 : Since w13 w14 := hb14
          have HB14 : Since w w14 := HB13.next hc14.out
          have HS14 : Since w12 w14 := HS13.next hc14.out
          have Ffa14 : Hid (FB w14 w2.heap.size x1 y1) := Ffa13.out.below hc14.out Ffa13.out.lt
          have Ffb14 : Hid (FB w14 w4.heap.size x2 y2) := Ffb13.out.below hc14.out Ffb13.out.lt
          have Ffc14 : Hid (FB w14 w6.heap.size x3 y3) := Ffc13.out.below hc14.out Ffc13.out.lt
          have Fft14 : Hid (FB w14 w8.heap.size x4 y4) := Fft13.out.below hc14.out Fft13.out.lt
          clear hb14 hc14 Ffa13 Ffb13 Ffc13 Fft13 HB13 HS13
          have r0fa := Ffa14.out.c0; have r1fa := Ffa14.out.c1
          have r0fb := Ffb14.out.c0; have r1fb := Ffb14.out.c1
          go_wp2_with fail
          go_meet
          case rel => exact ⟨rfl, rfl, HS14⟩
        · skip
          have r0fa := Ffa12.out.c0; have r1fa := Ffa12.out.c1
          have r0fb := Ffb12.out.c0; have r1fb := Ffb12.out.c1
          go_wp2_with fail
          clear r0fa r1fa r0fb r1fb
          refine (fcmp_any x2 y2 x1 y1 _ w12 (HB12.tab HT) E4).mono ?_
          rintro e w13 ⟨rfl, hb13⟩
          have hc13 : Since w12 w13 := hb13
          have HB13 : Since w w13 := HB12.next hc13.out
          have HS13 : Since w12 w13 := hc13
          have Ffa13 : Hid (FB w13 w2.heap.size x1 y1) := Ffa12.out.below hc13.out Ffa12.out.lt
          have Ffb13 : Hid (FB w13 w4.heap.size x2 y2) := Ffb12.out.below hc13.out Ffb12.out.lt
          have Ffc13 : Hid (FB w13 w6.heap.size x3 y3) := Ffc12.out.below hc13.out Ffc12.out.lt
          have Fft13 : Hid (FB w13 w8.heap.size x4 y4) := Fft12.out.below hc13.out Fft12.out.lt
          clear hb13 hc13 Ffa12 Ffb12 Ffc12 Fft12 HB12
          have r0fa := Ffa13.out.c0; have r1fa := Ffa13.out.c1
          have r0fb := Ffb13.out.c0; have r1fb := Ffb13.out.c1
          go_wp2_with fail
          clear r0fa r1fa r0fb r1fb
          refine (fcmp_any x1 y1 x1 y1 0 w13 (HB13.tab HT) E5).mono ?_
          rintro e w14 ⟨rfl, hb14⟩
          have hc14 : Since w13 w14 := hb14
          have HB14 : Since w w14 := HB13.next hc14.out
          have HS14 : Since w12 w14 := HS13.next hc14.out
          have Ffa14 : Hid (FB w14 w2.heap.size x1 y1) := Ffa13.out.below hc14.out Ffa13.out.lt
          have Ffb14 : Hid (FB w14 w4.heap.size x2 y2) := Ffb13.out.below hc14.out Ffb13.out.lt
          have Ffc14 : Hid (FB w14 w6.heap.size x3 y3) := Ffc13.out.below hc14.out Ffc13.out.lt
          have Fft14 : Hid (FB w14 w8.heap.size x4 y4) := Fft13.out.below hc14.out Fft13.out.lt
          clear hb14 hc14 Ffa13 Ffb13 Ffc13 Fft13 HB13 HS13
          have r0fa := Ffa14.out.c0; have r1fa := Ffa14.out.c1
          have r0fb := Ffb14.out.c0; have r1fb := Ffb14.out.c1
          go_wp2_with fail
          go_meet
          case rel => exact ⟨rfl, rfl, HS14⟩
        · skip
          have r0fa := Ffa12.out.c0; have r1fa := Ffa12.out.c1
          have r0fb := Ffb12.out.c0; have r1fb := Ffb12.out.c1
          go_wp2_with fail
          clear r0fa r1fa r0fb r1fb
          refine (fcmp_any x2 y2 x1 y1 _ w12 (HB12.tab HT) E4).mono ?_
          rintro e w13 ⟨rfl, hb13⟩
          have hc13 : Since w12 w13 := hb13
          have HB13 : Since w w13 := HB12.next hc13.out
          have HS13 : Since w12 w13 := hc13
          have Ffa13 : Hid (FB w13 w2.heap.size x1 y1) := Ffa12.out.below hc13.out Ffa12.out.lt
          have Ffb13 : Hid (FB w13 w4.heap.size x2 y2) := Ffb12.out.below hc13.out Ffb12.out.lt
          have Ffc13 : Hid (FB w13 w6.heap.size x3 y3) := Ffc12.out.below hc13.out Ffc12.out.lt
          have Fft13 : Hid (FB w13 w8.heap.size x4 y4) := Fft12.out.below hc13.out Fft12.out.lt
          clear hb13 hc13 Ffa12 Ffb12 Ffc12 Fft12 HB12
          have r0fa := Ffa13.out.c0; have r1fa := Ffa13.out.c1
          have r0fb := Ffb13.out.c0; have r1fb := Ffb13.out.c1
          go_wp2_with fail
          clear r0fa r1fa r0fb r1fb
          refine (fcmp_any x1 y1 x1 y1 0 w13 (HB13.tab HT) E5).mono ?_
          rintro e w14 ⟨rfl, hb14⟩
          have hc14 : Since w13 w14 := hb14
          have HB14 : Since w w14 := HB13.next hc14.out
          have HS14 : Since w12 w14 := HS13.next hc14.out
          have Ffa14 : Hid (FB w14 w2.heap.size x1 y1) := Ffa13.out.below hc14.out Ffa13.out.lt
          have Ffb14 : Hid (FB w14 w4.heap.size x2 y2) := Ffb13.out.below hc14.out Ffb13.out.lt
          have Ffc14 : Hid (FB w14 w6.heap.size x3 y3) := Ffc13.out.below hc14.out Ffc13.out.lt
          have Fft14 : Hid (FB w14 w8.heap.size x4 y4) := Fft13.out.below hc14.out Fft13.out.lt
          clear hb14 hc14 Ffa13 Ffb13 Ffc13 Fft13 HB13 HS13
          have r0fa := Ffa14.out.c0; have r1fa := Ffa14.out.c1
          have r0fb := Ffb14.out.c0; have r1fb := Ffb14.out.c1
          go_wp2_with fail
          go_meet
          case rel => exact ⟨rfl, rfl, HS14⟩
      · clear hne
        rcases hr with ⟨rfl, rfl⟩ | ⟨rfl, rfl⟩ | rfl
        · skip
          have r0fa := Ffa12.out.c0; have r1fa := Ffa12.out.c1
          have r0fb := Ffb12.out.c0; have r1fb := Ffb12.out.c1
          go_wp2_with fail
          clear r0fa r1fa r0fb r1fb
          refine (fcmp_any x1 y2 x1 y1 _ w12 (HB12.tab HT) E4).mono ?_
          rintro e w13 ⟨rfl, hb13⟩
          have hc13 : Since w12 w13 := hb13
          have HB13 : Since w w13 := HB12.next hc13.out
          have HS13 : Since w12 w13 := hc13
          have Ffa13 : Hid (FB w13 w2.heap.size x1 y1) := Ffa12.out.below hc13.out Ffa12.out.lt
          have Ffb13 : Hid (FB w13 w4.heap.size x1 y2) := Ffb12.out.below hc13.out Ffb12.out.lt
          have Ffc13 : Hid (FB w13 w6.heap.size x3 y3) := Ffc12.out.below hc13.out Ffc12.out.lt
          have Fft13 : Hid (FB w13 w8.heap.size x4 y4) := Fft12.out.below hc13.out Fft12.out.lt
          clear hb13 hc13 Ffa12 Ffb12 Ffc12 Fft12 HB12
          have r0fa := Ffa13.out.c0; have r1fa := Ffa13.out.c1
          have r0fb := Ffb13.out.c0; have r1fb := Ffb13.out.c1
          go_wp2_with fail
          clear r0fa r1fa r0fb r1fb
          refine (fcmp_any x1 y1 x1 y1 0 w13 (HB13.tab HT) E5).mono ?_
          rintro e w14 ⟨rfl, hb14⟩
          have hc14 : Since w13 w14 := hb14
          have HB14 : Since w w14 := HB13.next hc14.out
          have HS14 : Since w12 w14 := HS13.next hc14.out
          have Ffa14 : Hid (FB w14 w2.heap.size x1 y1) := Ffa13.out.below hc14.out Ffa13.out.lt
          have Ffb14 : Hid (FB w14 w4.heap.size x1 y2) := Ffb13.out.below hc14.out Ffb13.out.lt
          have Ffc14 : Hid (FB w14 w6.heap.size x3 y3) := Ffc13.out.below hc14.out Ffc13.out.lt
          have Fft14 : Hid (FB w14 w8.heap.size x4 y4) := Fft13.out.below hc14.out Fft13.out.lt
          clear hb14 hc14 Ffa13 Ffb13 Ffc13 Fft13 HB13 HS13
          have r0fa := Ffa14.out.c0; have r1fa := Ffa14.out.c1
          have r0fb := Ffb14.out.c0; have r1fb := Ffb14.out.c1
          go_wp2_with fail
          go_meet
          case rel => exact ⟨rfl, rfl, HS14⟩
        · skip
          have r0fa := Ffa12.out.c0; have r1fa := Ffa12.out.c1
          have r0fb := Ffb12.out.c0; have r1fb := Ffb12.out.c1
          go_wp2_with fail
          clear r0fa r1fa r0fb r1fb
          refine (fcmp_any x1 y2 x1 y1 _ w12 (HB12.tab HT) E4).mono ?_
          rintro e w13 ⟨rfl, hb13⟩
          have hc13 : Since w12 w13 := hb13
          have HB13 : Since w w13 := HB12.next hc13.out
          have HS13 : Since w12 w13 := hc13
          have Ffa13 : Hid (FB w13 w2.heap.size x1 y1) := Ffa12.out.below hc13.out Ffa12.out.lt
          have Ffb13 : Hid (FB w13 w4.heap.size x1 y2) := Ffb12.out.below hc13.out Ffb12.out.lt
          have Ffc13 : Hid (FB w13 w6.heap.size x3 y3) := Ffc12.out.below hc13.out Ffc12.out.lt
          have Fft13 : Hid (FB w13 w8.heap.size x4 y4) := Fft12.out.below hc13.out Fft12.out.lt
          clear hb13 hc13 Ffa12 Ffb12 Ffc12 Fft12 HB12
          have r0fa := Ffa13.out.c0; have r1fa := Ffa13.out.c1
          have r0fb := Ffb13.out.c0; have r1fb := Ffb13.out.c1
          go_wp2_with fail
          clear r0fa r1fa r0fb r1fb
          refine (fcmp_any x1 y1 x1 y1 0 w13 (HB13.tab HT) E5).mono ?_
          rintro e w14 ⟨rfl, hb14⟩
          have hc14 : Since w13 w14 := hb14
          have HB14 : Since w w14 := HB13.next hc14.out
          have HS14 : Since w12 w14 := HS13.next hc14.out
          have Ffa14 : Hid (FB w14 w2.heap.size x1 y1) := Ffa13.out.below hc14.out Ffa13.out.lt
          have Ffb14 : Hid (FB w14 w4.heap.size x1 y2) := Ffb13.out.below hc14.out Ffb13.out.lt
          have Ffc14 : Hid (FB w14 w6.heap.size x3 y3) := Ffc13.out.below hc14.out Ffc13.out.lt
          have Fft14 : Hid (FB w14 w8.heap.size x4 y4) := Fft13.out.below hc14.out Fft13.out.lt
          clear hb14 hc14 Ffa13 Ffb13 Ffc13 Fft13 HB13 HS13
          have r0fa := Ffa14.out.c0; have r1fa := Ffa14.out.c1
          have r0fb := Ffb14.out.c0; have r1fb := Ffb14.out.c1
          go_wp2_with fail
          go_meet
          case rel => exact ⟨rfl, rfl, HS14⟩
        · skip
          have r0fa := Ffa12.out.c0; have r1fa := Ffa12.out.c1
          have r0fb := Ffb12.out.c0; have r1fb := Ffb12.out.c1
          go_wp2_with fail
          clear r0fa r1fa r0fb r1fb
          refine (fcmp_any x1 y2 x1 y1 _ w12 (HB12.tab HT) E4).mono ?_
          rintro e w13 ⟨rfl, hb13⟩
          have hc13 : Since w12 w13 := hb13
          have HB13 : Since w w13 := HB12.next hc13.out
          have HS13 : Since w12 w13 := hc13
          have Ffa13 : Hid (FB w13 w2.heap.size x1 y1) := Ffa12.out.below hc13.out Ffa12.out.lt
          have Ffb13 : Hid (FB w13 w4.heap.size x1 y2) := Ffb12.out.below hc13.out Ffb12.out.lt
          have Ffc13 : Hid (FB w13 w6.heap.size x3 y3) := Ffc12.out.below hc13.out Ffc12.out.lt
          have Fft13 : Hid (FB w13 w8.heap.size x4 y4) := Fft12.out.below hc13.out Fft12.out.lt
          clear hb13 hc13 Ffa12 Ffb12 Ffc12 Fft12 HB12
          have r0fa := Ffa13.out.c0; have r1fa := Ffa13.out.c1
          have r0fb := Ffb13.out.c0; have r1fb := Ffb13.out.c1
          go_wp2_with fail
          clear r0fa r1fa r0fb r1fb
          refine (fcmp_any x1 y1 x1 y1 0 w13 (HB13.tab HT) E5).mono ?_
          rintro e w14 ⟨rfl, hb14⟩
          have hc14 : Since w13 w14 := hb14
          have HB14 : Since w w14 := HB13.next hc14.out
          have HS14 : Since w12 w14 := HS13.next hc14.out
          have Ffa14 : Hid (FB w14 w2.heap.size x1 y1) := Ffa13.out.below hc14.out Ffa13.out.lt
          have Ffb14 : Hid (FB w14 w4.heap.size x1 y2) := Ffb13.out.below hc14.out Ffb13.out.lt
          have Ffc14 : Hid (FB w14 w6.heap.size x3 y3) := Ffc13.out.below hc14.out Ffc13.out.lt
          have Fft14 : Hid (FB w14 w8.heap.size x4 y4) := Fft13.out.below hc14.out Fft13.out.lt
          clear hb14 hc14 Ffa13 Ffb13 Ffc13 Fft13 HB13 HS13
          have r0fa := Ffa14.out.c0; have r1fa := Ffa14.out.c1
          have r0fb := Ffb14.out.c0; have r1fb := Ffb14.out.c1
          go_wp2_with fail
          go_meet
          case rel => exact ⟨rfl, rfl, HS14⟩
    · clear HCases HAB
      subst heq
      obtain ⟨rfl, rfl⟩ := HA.out.1.same HB.out.1
      clear E1
      rcases hr with ⟨rfl, rfl⟩ | ⟨rfl, rfl⟩ | rfl
      · skip
        have r0fa := Ffa12.out.c0; have r1fa := Ffa12.out.c1
        have r0fb := Ffb12.out.c0; have r1fb := Ffb12.out.c1
        go_wp2_with fail
        clear r0fa r1fa r0fb r1fb
        refine (fcmp_any x1 y1 x1 y1 _ w12 (HB12.tab HT) E4).mono ?_
        rintro e w13 ⟨rfl, hb13⟩
        have hc13 : Since w12 w13 := hb13
        have HB13 : Since w w13 := HB12.next hc13.out
        have HS13 : Since w12 w13 := hc13
        have Ffa13 : Hid (FB w13 w2.heap.size x1 y1) := Ffa12.out.below hc13.out Ffa12.out.lt
        have Ffb13 : Hid (FB w13 w4.heap.size x1 y1) := Ffb12.out.below hc13.out Ffb12.out.lt
        have Ffc13 : Hid (FB w13 w6.heap.size x3 y3) := Ffc12.out.below hc13.out Ffc12.out.lt
        have Fft13 : Hid (FB w13 w8.heap.size x4 y4) := Fft12.out.below hc13.out Fft12.out.lt
        clear hb13 hc13 Ffa12 Ffb12 Ffc12 Fft12 HB12
        have r0fa := Ffa13.out.c0; have r1fa := Ffa13.out.c1
        have r0fb := Ffb13.out.c0; have r1fb := Ffb13.out.c1
        go_wp2_with fail
        clear r0fa r1fa r0fb r1fb
        refine (fcmp_any x1 y1 x1 y1 0 w13 (HB13.tab HT) E5).mono ?_
        rintro e w14 ⟨rfl, hb14⟩
        have hc14 : Since w13 w14 := hb14
        have HB14 : Since w w14 := HB13.next hc14.out
        have HS14 : Since w12 w14 := HS13.next hc14.out
        have Ffa14 : Hid (FB w14 w2.heap.size x1 y1) := Ffa13.out.below hc14.out Ffa13.out.lt
        have Ffb14 : Hid (FB w14 w4.heap.size x1 y1) := Ffb13.out.below hc14.out Ffb13.out.lt
        have Ffc14 : Hid (FB w14 w6.heap.size x3 y3) := Ffc13.out.below hc14.out Ffc13.out.lt
        have Fft14 : Hid (FB w14 w8.heap.size x4 y4) := Fft13.out.below hc14.out Fft13.out.lt
        clear hb14 hc14 Ffa13 Ffb13 Ffc13 Fft13 HB13 HS13
        have r0fa := Ffa14.out.c0; have r1fa := Ffa14.out.c1
        have r0fb := Ffb14.out.c0; have r1fb := Ffb14.out.c1
        go_wp2_with fail
        go_meet
        case rel => exact ⟨rfl, rfl, HS14⟩
      · skip
        have r0fa := Ffa12.out.c0; have r1fa := Ffa12.out.c1
        have r0fb := Ffb12.out.c0; have r1fb := Ffb12.out.c1
        go_wp2_with fail
        clear r0fa r1fa r0fb r1fb
        refine (fcmp_any x1 y1 x1 y1 _ w12 (HB12.tab HT) E4).mono ?_
        rintro e w13 ⟨rfl, hb13⟩
        have hc13 : Since w12 w13 := hb13
        have HB13 : Since w w13 := HB12.next hc13.out
        have HS13 : Since w12 w13 := hc13
        have Ffa13 : Hid (FB w13 w2.heap.size x1 y1) := Ffa12.out.below hc13.out Ffa12.out.lt
        have Ffb13 : Hid (FB w13 w4.heap.size x1 y1) := Ffb12.out.below hc13.out Ffb12.out.lt
        have Ffc13 : Hid (FB w13 w6.heap.size x3 y3) := Ffc12.out.below hc13.out Ffc12.out.lt
        have Fft13 : Hid (FB w13 w8.heap.size x4 y4) := Fft12.out.below hc13.out Fft12.out.lt
        clear hb13 hc13 Ffa12 Ffb12 Ffc12 Fft12 HB12
        have r0fa := Ffa13.out.c0; have r1fa := Ffa13.out.c1
        have r0fb := Ffb13.out.c0; have r1fb := Ffb13.out.c1
        go_wp2_with fail
        clear r0fa r1fa r0fb r1fb
        refine (fcmp_any x1 y1 x1 y1 0 w13 (HB13.tab HT) E5).mono ?_
        rintro e w14 ⟨rfl, hb14⟩
        have hc14 : Since w13 w14 := hb14
        have HB14 : Since w w14 := HB13.next hc14.out
        have HS14 : Since w12 w14 := HS13.next hc14.out
        have Ffa14 : Hid (FB w14 w2.heap.size x1 y1) := Ffa13.out.below hc14.out Ffa13.out.lt
        have Ffb14 : Hid (FB w14 w4.heap.size x1 y1) := Ffb13.out.below hc14.out Ffb13.out.lt
        have Ffc14 : Hid (FB w14 w6.heap.size x3 y3) := Ffc13.out.below hc14.out Ffc13.out.lt
        have Fft14 : Hid (FB w14 w8.heap.size x4 y4) := Fft13.out.below hc14.out Fft13.out.lt
        clear hb14 hc14 Ffa13 Ffb13 Ffc13 Fft13 HB13 HS13
        have r0fa := Ffa14.out.c0; have r1fa := Ffa14.out.c1
        have r0fb := Ffb14.out.c0; have r1fb := Ffb14.out.c1
        go_wp2_with fail
        go_meet
        case rel => exact ⟨rfl, rfl, HS14⟩
      · skip
        have r0fa := Ffa12.out.c0; have r1fa := Ffa12.out.c1
        have r0fb := Ffb12.out.c0; have r1fb := Ffb12.out.c1
        go_wp2_with fail
        clear r0fa r1fa r0fb r1fb
        refine (fcmp_any x1 y1 x1 y1 _ w12 (HB12.tab HT) E4).mono ?_
        rintro e w13 ⟨rfl, hb13⟩
        have hc13 : Since w12 w13 := hb13
        have HB13 : Since w w13 := HB12.next hc13.out
        have HS13 : Since w12 w13 := hc13
        have Ffa13 : Hid (FB w13 w2.heap.size x1 y1) := Ffa12.out.below hc13.out Ffa12.out.lt
        have Ffb13 : Hid (FB w13 w4.heap.size x1 y1) := Ffb12.out.below hc13.out Ffb12.out.lt
        have Ffc13 : Hid (FB w13 w6.heap.size x3 y3) := Ffc12.out.below hc13.out Ffc12.out.lt
        have Fft13 : Hid (FB w13 w8.heap.size x4 y4) := Fft12.out.below hc13.out Fft12.out.lt
        clear hb13 hc13 Ffa12 Ffb12 Ffc12 Fft12 HB12
        have r0fa := Ffa13.out.c0; have r1fa := Ffa13.out.c1
        have r0fb := Ffb13.out.c0; have r1fb := Ffb13.out.c1
        go_wp2_with fail
        clear r0fa r1fa r0fb r1fb
        refine (fcmp_any x1 y1 x1 y1 0 w13 (HB13.tab HT) E5).mono ?_
        rintro e w14 ⟨rfl, hb14⟩
        have hc14 : Since w13 w14 := hb14
        have HB14 : Since w w14 := HB13.next hc14.out
        have HS14 : Since w12 w14 := HS13.next hc14.out
        have Ffa14 : Hid (FB w14 w2.heap.size x1 y1) := Ffa13.out.below hc14.out Ffa13.out.lt
        have Ffb14 : Hid (FB w14 w4.heap.size x1 y1) := Ffb13.out.below hc14.out Ffb13.out.lt
        have Ffc14 : Hid (FB w14 w6.heap.size x3 y3) := Ffc13.out.below hc14.out Ffc13.out.lt
        have Fft14 : Hid (FB w14 w8.heap.size x4 y4) := Fft13.out.below hc14.out Fft13.out.lt
        clear hb14 hc14 Ffa13 Ffb13 Ffc13 Fft13 HB13 HS13
        have r0fa := Ffa14.out.c0; have r1fa := Ffa14.out.c1
        have r0fb := Ffb14.out.c0; have r1fb := Ffb14.out.c1
        go_wp2_with fail
        go_meet
        case rel => exact ⟨rfl, rfl, HS14⟩
    · clear HCases HAB
      rcases ne_split (fun e => hne ((HA.out.1.inj HB.out.1).1 e)) with hag | ⟨rfl, hag⟩
      · clear hne
        have r0fa := Ffa12.out.c0; have r1fa := Ffa12.out.c1
        have r0fb := Ffb12.out.c0; have r1fb := Ffb12.out.c1
        go_wp2_with fail
        clear r0fa r1fa r0fb r1fb
        refine (fcmp_any x2 y2 x1 y1 _ w12 (HB12.tab HT) E4).mono ?_
        rintro e w13 ⟨rfl, hb13⟩
        have hc13 : Since w12 w13 := hb13
        have HB13 : Since w w13 := HB12.next hc13.out
        have HS13 : Since w12 w13 := hc13
        have Ffa13 : Hid (FB w13 w2.heap.size x1 y1) := Ffa12.out.below hc13.out Ffa12.out.lt
        have Ffb13 : Hid (FB w13 w4.heap.size x2 y2) := Ffb12.out.below hc13.out Ffb12.out.lt
        have Ffc13 : Hid (FB w13 w6.heap.size x3 y3) := Ffc12.out.below hc13.out Ffc12.out.lt
        have Fft13 : Hid (FB w13 w8.heap.size x4 y4) := Fft12.out.below hc13.out Fft12.out.lt
        clear hb13 hc13 Ffa12 Ffb12 Ffc12 Fft12 HB12
        have r0fa := Ffa13.out.c0; have r1fa := Ffa13.out.c1
        have r0fb := Ffb13.out.c0; have r1fb := Ffb13.out.c1
        go_wp2_with fail
        clear r0fa r1fa r0fb r1fb
        refine (fcmp_any x1 y1 x1 y1 0 w13 (HB13.tab HT) E5).mono ?_
        rintro e w14 ⟨rfl, hb14⟩
        have hc14 : Since w13 w14 := hb14
        have HB14 : Since w w14 := HB13.next hc14.out
        have HS14 : Since w12 w14 := HS13.next hc14.out
        have Ffa14 : Hid (FB w14 w2.heap.size x1 y1) := Ffa13.out.below hc14.out Ffa13.out.lt
        have Ffb14 : Hid (FB w14 w4.heap.size x2 y2) := Ffb13.out.below hc14.out Ffb13.out.lt
        have Ffc14 : Hid (FB w14 w6.heap.size x3 y3) := Ffc13.out.below hc14.out Ffc13.out.lt
        have Fft14 : Hid (FB w14 w8.heap.size x4 y4) := Fft13.out.below hc14.out Fft13.out.lt
        clear hb14 hc14 Ffa13 Ffb13 Ffc13 Fft13 HB13 HS13
        have r0fa := Ffa14.out.c0; have r1fa := Ffa14.out.c1
        have r0fb := Ffb14.out.c0; have r1fb := Ffb14.out.c1
        go_wp2_with fail
        go_meet
        case rel => exact ⟨rfl, rfl, HS14⟩
      · clear hne
        have r0fa := Ffa12.out.c0; have r1fa := Ffa12.out.c1
        have r0fb := Ffb12.out.c0; have r1fb := Ffb12.out.c1
        go_wp2_with fail
        clear r0fa r1fa r0fb r1fb
        refine (fcmp_any x1 y2 x1 y1 _ w12 (HB12.tab HT) E4).mono ?_
        rintro e w13 ⟨rfl, hb13⟩
        have hc13 : Since w12 w13 := hb13
        have HB13 : Since w w13 := HB12.next hc13.out
        have HS13 : Since w12 w13 := hc13
        have Ffa13 : Hid (FB w13 w2.heap.size x1 y1) := Ffa12.out.below hc13.out Ffa12.out.lt
        have Ffb13 : Hid (FB w13 w4.heap.size x1 y2) := Ffb12.out.below hc13.out Ffb12.out.lt
        have Ffc13 : Hid (FB w13 w6.heap.size x3 y3) := Ffc12.out.below hc13.out Ffc12.out.lt
        have Fft13 : Hid (FB w13 w8.heap.size x4 y4) := Fft12.out.below hc13.out Fft12.out.lt
        clear hb13 hc13 Ffa12 Ffb12 Ffc12 Fft12 HB12
        have r0fa := Ffa13.out.c0; have r1fa := Ffa13.out.c1
        have r0fb := Ffb13.out.c0; have r1fb := Ffb13.out.c1
        go_wp2_with fail
        clear r0fa r1fa r0fb r1fb
        refine (fcmp_any x1 y1 x1 y1 0 w13 (HB13.tab HT) E5).mono ?_
        rintro e w14 ⟨rfl, hb14⟩
        have hc14 : Since w13 w14 := hb14
        have HB14 : Since w w14 := HB13.next hc14.out
        have HS14 : Since w12 w14 := HS13.next hc14.out
        have Ffa14 : Hid (FB w14 w2.heap.size x1 y1) := Ffa13.out.below hc14.out Ffa13.out.lt
        have Ffb14 : Hid (FB w14 w4.heap.size x1 y2) := Ffb13.out.below hc14.out Ffb13.out.lt
        have Ffc14 : Hid (FB w14 w6.heap.size x3 y3) := Ffc13.out.below hc14.out Ffc13.out.lt
        have Fft14 : Hid (FB w14 w8.heap.size x4 y4) := Fft13.out.below hc14.out Fft13.out.lt
        clear hb14 hc14 Ffa13 Ffb13 Ffc13 Fft13 HB13 HS13
        have r0fa := Ffa14.out.c0; have r1fa := Ffa14.out.c1
        have r0fb := Ffb14.out.c0; have r1fb := Ffb14.out.c1
        go_wp2_with fail
        go_meet
        case rel => exact ⟨rfl, rfl, HS14⟩
  case rest =>
    obtain ⟨h14, h92, hc13⟩ := hcut
    have HB13 : Since w wc := HB12.next hc13.out
    have Ffa13 : Hid (FB wc w2.heap.size x1 y1) := Ffa12.out.below hc13.out Ffa12.out.lt
    have Ffb13 : Hid (FB wc w4.heap.size x2 y2) := Ffb12.out.below hc13.out Ffb12.out.lt
    have Ffc13 : Hid (FB wc w6.heap.size x3 y3) := Ffc12.out.below hc13.out Ffc12.out.lt
    have Fft13 : Hid (FB wc w8.heap.size x4 y4) := Fft12.out.below hc13.out Fft12.out.lt
    clear hc13 Ffa12 Ffb12 Ffc12 Fft12 HB12
    generalize wc = w13 at Ffa13 Ffb13 Ffc13 Fft13 HB13 ⊢
    subst h14 h92
    clear E4 E5 HCases
    obtain ⟨u5, v5, c5, e5, G5⟩ := gave_sub HA.out.1 HB.out.1
    obtain ⟨u6, v6, c6, e6, G6⟩ := gave_add HA.out.1 HTq.out.1
    obtain ⟨u7, v7, c7, e7, G7⟩ := gave_add HB.out.1 HTq.out.1
    obtain ⟨u8, v8, c8, e8, G8⟩ := gave_mul HA.out.1 HTq.out.1
    obtain ⟨u9, v9, c9, e9, G9⟩ := gave_mul HB.out.1 HTq.out.1
    have E5 := Lib.hid e5
    have E6 := Lib.hid e6
    have E7 := Lib.hid e7
    have E8 := Lib.hid e8
    have E9 := Lib.hid e9
    have D5 : Hid (c5 = 40 ∨ (c5 = 0 ∧ cmpO (frac u5.data.toList v5.data.toList) (frac (⟨#[48]⟩ : ByteArray).data.toList (⟨#[49]⟩ : ByteArray).data.toList) = ab)) := by
      rcases G5.code with h | rfl
      · exact .inl h
      · exact .inr ⟨rfl, (cmpO_fr G5.ok fr_zero).trans ((cmp_sub A B).trans HAB.out)⟩
    have D6 : Hid (c6 = 40 ∨ (c6 = 0 ∧ c7 = 40) ∨ (c6 = 0 ∧ c7 = 0 ∧ cmpO (frac u6.data.toList v6.data.toList) (frac u7.data.toList v7.data.toList) = ab)) := by
      rcases G6.code with h | rfl
      · exact .inl h
      · rcases G7.code with h | rfl
        · exact .inr (.inl ⟨rfl, h⟩)
        · exact .inr (.inr ⟨rfl, rfl, (cmpO_fr G6.ok G7.ok).trans ((cmp_add A B T).trans HAB.out)⟩)
    obtain ⟨ct, hct⟩ : ∃ ct, cmpR T 0 = ct := ⟨_, rfl⟩
    obtain ⟨m, hmm⟩ : ∃ m, ab * ct = m := ⟨_, rfl⟩
    have E10 : Hid (cmpO (frac x4.data.toList y4.data.toList) (frac (⟨#[48]⟩ : ByteArray).data.toList (⟨#[49]⟩ : ByteArray).data.toList) = ct) := (cmpO_fr HTq.out.1 fr_zero).trans hct
    have D8 : Hid (c8 = 40 ∨ (c8 = 0 ∧ c9 = 40) ∨ (c8 = 0 ∧ c9 = 0 ∧ cmpO (frac u8.data.toList v8.data.toList) (frac u9.data.toList v9.data.toList) = m)) := by
      rcases G8.code with h | rfl
      · exact .inl h
      · rcases G9.code with h | rfl
        · exact .inr (.inl ⟨rfl, h⟩)
        · exact .inr (.inr ⟨rfl, rfl, (cmpO_fr G8.ok G9.ok).trans ((cmp_mul A B T).trans (by rw [HAB.out, hct, hmm]))⟩)
    have hm1 : IntKind.i64.wrap (ab * ct) = m := by
      have h1 := hab1
      have h2 := cmpR_in T 0
      rw [hct] at h2
      have h3 : -1 ≤ m ∧ m ≤ 1 := by
        rw [← hmm]
        rcases (show ct = -1 ∨ ct = 0 ∨ ct = 1 by omega) with rfl | rfl | rfl <;> omega
      rw [hmm]; exact wrap_in (by omega) (by omega)
    clear e5 e6 e7 e8 e9 G5 G6 G7 G8 G9 HAB hct hmm hab1 HA HB HC HTq E1 E2 E3
    have r0fa := Ffa13.out.c0; have r1fa := Ffa13.out.c1
    have r0fb := Ffb13.out.c0; have r1fb := Ffb13.out.c1
    go_wp2_with fail
    clear r0fa r1fa r0fb r1fb
    refine (fsub_any x1 y1 x2 y2 u5 v5 c5 w13 (HB13.tab HT) E5).mono ?_
    rintro e w14 ⟨rfl, hb14⟩
    have hc14 : Since w13 w14 := hb14
    have HB14 : Since w w14 := HB13.next hc14.out
    have Ffa14 : Hid (FB w14 w2.heap.size x1 y1) := Ffa13.out.below hc14.out Ffa13.out.lt
    have Ffb14 : Hid (FB w14 w4.heap.size x2 y2) := Ffb13.out.below hc14.out Ffb13.out.lt
    have Ffc14 : Hid (FB w14 w6.heap.size x3 y3) := Ffc13.out.below hc14.out Ffc13.out.lt
    have Fft14 : Hid (FB w14 w8.heap.size x4 y4) := Fft13.out.below hc14.out Fft13.out.lt
    clear hb14 hc14 Ffa13 Ffb13 Ffc13 Fft13 HB13
    have hA15 : Since w14 (w14.alloc (.cells #[.string u5, .string v5] 26)) := (Below.refl _ w14).alloc (Nat.le_refl _) _
    have Ffa15 : Hid (FB (w14.alloc (.cells #[.string u5, .string v5] 26)) w2.heap.size x1 y1) := Ffa14.out.below hA15.out Ffa14.out.lt
    have Ffb15 : Hid (FB (w14.alloc (.cells #[.string u5, .string v5] 26)) w4.heap.size x2 y2) := Ffb14.out.below hA15.out Ffb14.out.lt
    have Ffc15 : Hid (FB (w14.alloc (.cells #[.string u5, .string v5] 26)) w6.heap.size x3 y3) := Ffc14.out.below hA15.out Ffc14.out.lt
    have Fft15 : Hid (FB (w14.alloc (.cells #[.string u5, .string v5] 26)) w8.heap.size x4 y4) := Fft14.out.below hA15.out Fft14.out.lt
    have HB15 : Since w (w14.alloc (.cells #[.string u5, .string v5] 26)) := HB14.next hA15.out
    have Ffd15 : Hid (FB (w14.alloc (.cells #[.string u5, .string v5] 26)) w14.heap.size u5 v5) := FB.new _ _ _
    clear hA15 Ffa14 Ffb14 Ffc14 Fft14 HB14
    go_upto_region 12 with fail
    generalize (w14.alloc (.cells #[.string u5, .string v5] 26)) = w15 at Ffa15 Ffb15 Ffc15 Fft15 Ffd15 HB15 ⊢
    go_cut [14, 107] from 23 (fun s14 s107 W => s14 = .int .i64 ab ∧ s107 = .bool false ∧ Since w15 W)
    case first =>
      have HTa : Hid (Tab w15) := HB15.tab HT
      have HSall : Hid (∀ W', Since w15 W' → Since w15 W' ∧ W'.cell? ⟨w14.heap.size, 0, none⟩ = some (.string u5) ∧ W'.cell? ⟨w14.heap.size, 1, none⟩ = some (.string v5)) := by
        intro W' h
        have gfd := Ffd15.out.below h.out Ffd15.out.lt
        exact ⟨h, gfd.c0, gfd.c1⟩
      have HPd := HSall.out w15.drew (Since.refl w15).out.drew
      rcases D5.out with rfl | ⟨rfl, hcm⟩
      · skip
        go_quiet (fail)
        go_wp2_with fail
        go_meet
        case rel => exact ⟨rfl, rfl, below_drewN (Below.refl _ _) _⟩
      · have HCM := Lib.hid hcm
        clear hcm
        go_region_held3 (fun W' => Since w15 W' ∧ W'.cell? ⟨w14.heap.size, 0, none⟩ = some (.string u5) ∧ W'.cell? ⟨w14.heap.size, 1, none⟩ = some (.string v5))
          (first | assumption | exact HSall.out _ (sk_next (by assumption) HB2))
          (first
            | (go_at_call 16; refine (is_any _ _ _).mono ?_; rintro e W2 ⟨rfl, HB2⟩)
            | (go_at_call 14; with_reducible refine Calls.mono (fcmp_any u5 v5 ⟨#[48]⟩ ⟨#[49]⟩ ab _ (sk_tab HTa (by assumption)) HCM) ?_; rintro e W2 ⟨rfl, HB2⟩))
        go_wp2_with fail
        go_meet
        case rel => exact ⟨rfl, rfl, sk_at (by assumption)⟩
    case rest =>
      obtain ⟨h14, h107, hc16⟩ := hcut
      have HB16 : Since w wc := HB15.next hc16.out
      have Ffa16 : Hid (FB wc w2.heap.size x1 y1) := Ffa15.out.below hc16.out Ffa15.out.lt
      have Ffb16 : Hid (FB wc w4.heap.size x2 y2) := Ffb15.out.below hc16.out Ffb15.out.lt
      have Ffc16 : Hid (FB wc w6.heap.size x3 y3) := Ffc15.out.below hc16.out Ffc15.out.lt
      have Fft16 : Hid (FB wc w8.heap.size x4 y4) := Fft15.out.below hc16.out Fft15.out.lt
      have Ffd16 : Hid (FB wc w14.heap.size u5 v5) := Ffd15.out.below hc16.out Ffd15.out.lt
      clear hc16 Ffa15 Ffb15 Ffc15 Fft15 Ffd15 HB15
      generalize wc = w16 at Ffa16 Ffb16 Ffc16 Fft16 Ffd16 HB16 ⊢
      subst h14 h107
      clear D5
      clear Ffd16
      have r0fa := Ffa16.out.c0; have r1fa := Ffa16.out.c1
      have r0ft := Fft16.out.c0; have r1ft := Fft16.out.c1
      go_wp2_with fail
      clear r0fa r1fa r0ft r1ft
      refine (fadd_any x1 y1 x4 y4 u6 v6 c6 w16 (HB16.tab HT) E6).mono ?_
      rintro e w17 ⟨rfl, hb17⟩
      have hc17 : Since w16 w17 := hb17
      have HB17 : Since w w17 := HB16.next hc17.out
      have Ffa17 : Hid (FB w17 w2.heap.size x1 y1) := Ffa16.out.below hc17.out Ffa16.out.lt
      have Ffb17 : Hid (FB w17 w4.heap.size x2 y2) := Ffb16.out.below hc17.out Ffb16.out.lt
      have Ffc17 : Hid (FB w17 w6.heap.size x3 y3) := Ffc16.out.below hc17.out Ffc16.out.lt
      have Fft17 : Hid (FB w17 w8.heap.size x4 y4) := Fft16.out.below hc17.out Fft16.out.lt
      clear hb17 hc17 Ffa16 Ffb16 Ffc16 Fft16 HB16
      have hA18 : Since w17 (w17.alloc (.cells #[.string u6, .string v6] 26)) := (Below.refl _ w17).alloc (Nat.le_refl _) _
      have Ffa18 : Hid (FB (w17.alloc (.cells #[.string u6, .string v6] 26)) w2.heap.size x1 y1) := Ffa17.out.below hA18.out Ffa17.out.lt
      have Ffb18 : Hid (FB (w17.alloc (.cells #[.string u6, .string v6] 26)) w4.heap.size x2 y2) := Ffb17.out.below hA18.out Ffb17.out.lt
      have Ffc18 : Hid (FB (w17.alloc (.cells #[.string u6, .string v6] 26)) w6.heap.size x3 y3) := Ffc17.out.below hA18.out Ffc17.out.lt
      have Fft18 : Hid (FB (w17.alloc (.cells #[.string u6, .string v6] 26)) w8.heap.size x4 y4) := Fft17.out.below hA18.out Fft17.out.lt
      have HB18 : Since w (w17.alloc (.cells #[.string u6, .string v6] 26)) := HB17.next hA18.out
      have Ffp18 : Hid (FB (w17.alloc (.cells #[.string u6, .string v6] 26)) w17.heap.size u6 v6) := FB.new _ _ _
      have Kfafp : Hid (w2.heap.size ≠ w17.heap.size) := by have := Ffa17.out.lt; show _ ≠ _; omega
      have Kfbfp : Hid (w4.heap.size ≠ w17.heap.size) := by have := Ffb17.out.lt; show _ ≠ _; omega
      have Kfcfp : Hid (w6.heap.size ≠ w17.heap.size) := by have := Ffc17.out.lt; show _ ≠ _; omega
      have Kftfp : Hid (w8.heap.size ≠ w17.heap.size) := by have := Fft17.out.lt; show _ ≠ _; omega
      have Kwfp : Hid (w.heap.size ≤ w17.heap.size) := HB17.out.size
      clear hA18 Ffa17 Ffb17 Ffc17 Fft17 HB17
      have r0fb := Ffb18.out.c0; have r1fb := Ffb18.out.c1
      have r0ft := Fft18.out.c0; have r1ft := Fft18.out.c1
      go_wp2_with fail
      clear r0fb r1fb r0ft r1ft
      generalize (w17.alloc (.cells #[.string u6, .string v6] 26)) = w18 at Ffa18 Ffb18 Ffc18 Fft18 Ffp18 HB18 ⊢
      refine (fadd_any x2 y2 x4 y4 u7 v7 c7 w18 (HB18.tab HT) E7).mono ?_
      rintro e w19 ⟨rfl, hb19⟩
      have hc19 : Since w18 w19 := hb19
      have HB19 : Since w w19 := HB18.next hc19.out
      have Ffa19 : Hid (FB w19 w2.heap.size x1 y1) := Ffa18.out.below hc19.out Ffa18.out.lt
      have Ffb19 : Hid (FB w19 w4.heap.size x2 y2) := Ffb18.out.below hc19.out Ffb18.out.lt
      have Ffc19 : Hid (FB w19 w6.heap.size x3 y3) := Ffc18.out.below hc19.out Ffc18.out.lt
      have Fft19 : Hid (FB w19 w8.heap.size x4 y4) := Fft18.out.below hc19.out Fft18.out.lt
      have Ffp19 : Hid (FB w19 w17.heap.size u6 v6) := Ffp18.out.below hc19.out Ffp18.out.lt
      clear hb19 hc19 Ffa18 Ffb18 Ffc18 Fft18 Ffp18 HB18
      have hA20 : Since w19 (w19.alloc (.cells #[.string u7, .string v7] 26)) := (Below.refl _ w19).alloc (Nat.le_refl _) _
      have Ffa20 : Hid (FB (w19.alloc (.cells #[.string u7, .string v7] 26)) w2.heap.size x1 y1) := Ffa19.out.below hA20.out Ffa19.out.lt
      have Ffb20 : Hid (FB (w19.alloc (.cells #[.string u7, .string v7] 26)) w4.heap.size x2 y2) := Ffb19.out.below hA20.out Ffb19.out.lt
      have Ffc20 : Hid (FB (w19.alloc (.cells #[.string u7, .string v7] 26)) w6.heap.size x3 y3) := Ffc19.out.below hA20.out Ffc19.out.lt
      have Fft20 : Hid (FB (w19.alloc (.cells #[.string u7, .string v7] 26)) w8.heap.size x4 y4) := Fft19.out.below hA20.out Fft19.out.lt
      have Ffp20 : Hid (FB (w19.alloc (.cells #[.string u7, .string v7] 26)) w17.heap.size u6 v6) := Ffp19.out.below hA20.out Ffp19.out.lt
      have HB20 : Since w (w19.alloc (.cells #[.string u7, .string v7] 26)) := HB19.next hA20.out
      have Ffq20 : Hid (FB (w19.alloc (.cells #[.string u7, .string v7] 26)) w19.heap.size u7 v7) := FB.new _ _ _
      have Kfafq : Hid (w2.heap.size ≠ w19.heap.size) := by have := Ffa19.out.lt; show _ ≠ _; omega
      have Kfbfq : Hid (w4.heap.size ≠ w19.heap.size) := by have := Ffb19.out.lt; show _ ≠ _; omega
      have Kfcfq : Hid (w6.heap.size ≠ w19.heap.size) := by have := Ffc19.out.lt; show _ ≠ _; omega
      have Kftfq : Hid (w8.heap.size ≠ w19.heap.size) := by have := Fft19.out.lt; show _ ≠ _; omega
      have Kfpfq : Hid (w17.heap.size ≠ w19.heap.size) := by have := Ffp19.out.lt; show _ ≠ _; omega
      have Kwfq : Hid (w.heap.size ≤ w19.heap.size) := HB19.out.size
      clear hA20 Ffa19 Ffb19 Ffc19 Fft19 Ffp19 HB19
      go_upto_region 16 with fail
      generalize (w19.alloc (.cells #[.string u7, .string v7] 26)) = w20 at Ffa20 Ffb20 Ffc20 Fft20 Ffp20 Ffq20 HB20 ⊢
      go_cut [14, 132] from 23 (fun s14 s132 W => s14 = .int .i64 ab ∧ s132 = .bool false ∧ Since w20 W)
      case first =>
        rcases D6.out with rfl | ⟨rfl, rfl⟩ | ⟨rfl, rfl, hcm⟩
        · skip
          go_wp2_with fail
          go_meet
          case rel => exact ⟨rfl, rfl, Since.refl _⟩
        · skip
          go_wp2_with fail
          go_meet
          case rel => exact ⟨rfl, rfl, Since.refl _⟩
        · have HCM := Lib.hid hcm
          clear hcm
          have r0fp := Ffp20.out.c0; have r1fp := Ffp20.out.c1
          have r0fq := Ffq20.out.c0; have r1fq := Ffq20.out.c1
          go_wp2_with fail
          clear r0fp r1fp r0fq r1fq
          refine (fcmp_any u6 v6 u7 v7 ab w20 (HB20.tab HT) HCM).mono ?_
          rintro e w21 ⟨rfl, hb21⟩
          have hc21 : Since w20 w21 := hb21
          have HB21 : Since w w21 := HB20.next hc21.out
          have HS21 : Since w20 w21 := hc21
          have Ffa21 : Hid (FB w21 w2.heap.size x1 y1) := Ffa20.out.below hc21.out Ffa20.out.lt
          have Ffb21 : Hid (FB w21 w4.heap.size x2 y2) := Ffb20.out.below hc21.out Ffb20.out.lt
          have Ffc21 : Hid (FB w21 w6.heap.size x3 y3) := Ffc20.out.below hc21.out Ffc20.out.lt
          have Fft21 : Hid (FB w21 w8.heap.size x4 y4) := Fft20.out.below hc21.out Fft20.out.lt
          have Ffp21 : Hid (FB w21 w17.heap.size u6 v6) := Ffp20.out.below hc21.out Ffp20.out.lt
          have Ffq21 : Hid (FB w21 w19.heap.size u7 v7) := Ffq20.out.below hc21.out Ffq20.out.lt
          clear hb21 hc21 Ffa20 Ffb20 Ffc20 Fft20 Ffp20 Ffq20 HB20
          go_wp2_with fail
          go_meet
          case rel => exact ⟨rfl, rfl, HS21⟩
      case rest =>
        obtain ⟨h14, h132, hc21⟩ := hcut
        have HB21 : Since w wc := HB20.next hc21.out
        have Ffa21 : Hid (FB wc w2.heap.size x1 y1) := Ffa20.out.below hc21.out Ffa20.out.lt
        have Ffb21 : Hid (FB wc w4.heap.size x2 y2) := Ffb20.out.below hc21.out Ffb20.out.lt
        have Ffc21 : Hid (FB wc w6.heap.size x3 y3) := Ffc20.out.below hc21.out Ffc20.out.lt
        have Fft21 : Hid (FB wc w8.heap.size x4 y4) := Fft20.out.below hc21.out Fft20.out.lt
        have Ffp21 : Hid (FB wc w17.heap.size u6 v6) := Ffp20.out.below hc21.out Ffp20.out.lt
        have Ffq21 : Hid (FB wc w19.heap.size u7 v7) := Ffq20.out.below hc21.out Ffq20.out.lt
        clear hc21 Ffa20 Ffb20 Ffc20 Fft20 Ffp20 Ffq20 HB20
        generalize wc = w21 at Ffa21 Ffb21 Ffc21 Fft21 Ffp21 Ffq21 HB21 ⊢
        subst h14 h132
        clear D6
        have r0fa := Ffa21.out.c0; have r1fa := Ffa21.out.c1
        have r0ft := Fft21.out.c0; have r1ft := Fft21.out.c1
        go_wp2_with fail
        clear r0fa r1fa r0ft r1ft
        refine (fmul_any x1 y1 x4 y4 u8 v8 c8 w21 (HB21.tab HT) E8).mono ?_
        rintro e w22 ⟨rfl, hb22⟩
        have hc22 : Since w21 w22 := hb22
        have HB22 : Since w w22 := HB21.next hc22.out
        have Ffa22 : Hid (FB w22 w2.heap.size x1 y1) := Ffa21.out.below hc22.out Ffa21.out.lt
        have Ffb22 : Hid (FB w22 w4.heap.size x2 y2) := Ffb21.out.below hc22.out Ffb21.out.lt
        have Ffc22 : Hid (FB w22 w6.heap.size x3 y3) := Ffc21.out.below hc22.out Ffc21.out.lt
        have Fft22 : Hid (FB w22 w8.heap.size x4 y4) := Fft21.out.below hc22.out Fft21.out.lt
        have Ffp22 : Hid (FB w22 w17.heap.size u6 v6) := Ffp21.out.below hc22.out Ffp21.out.lt
        have Ffq22 : Hid (FB w22 w19.heap.size u7 v7) := Ffq21.out.below hc22.out Ffq21.out.lt
        clear hb22 hc22 Ffa21 Ffb21 Ffc21 Fft21 Ffp21 Ffq21 HB21
        have Ffa23 : Hid (FB ((w22.setCell ⟨w17.heap.size, 0, none⟩ (.string u8)).setCell ⟨w17.heap.size, 1, none⟩ (.string v8)) w2.heap.size x1 y1) := Ffa22.out.other Kfafp.out _ _
        have Ffb23 : Hid (FB ((w22.setCell ⟨w17.heap.size, 0, none⟩ (.string u8)).setCell ⟨w17.heap.size, 1, none⟩ (.string v8)) w4.heap.size x2 y2) := Ffb22.out.other Kfbfp.out _ _
        have Ffc23 : Hid (FB ((w22.setCell ⟨w17.heap.size, 0, none⟩ (.string u8)).setCell ⟨w17.heap.size, 1, none⟩ (.string v8)) w6.heap.size x3 y3) := Ffc22.out.other Kfcfp.out _ _
        have Fft23 : Hid (FB ((w22.setCell ⟨w17.heap.size, 0, none⟩ (.string u8)).setCell ⟨w17.heap.size, 1, none⟩ (.string v8)) w8.heap.size x4 y4) := Fft22.out.other Kftfp.out _ _
        have Ffp23 : Hid (FB ((w22.setCell ⟨w17.heap.size, 0, none⟩ (.string u8)).setCell ⟨w17.heap.size, 1, none⟩ (.string v8)) w17.heap.size u8 v8) := Ffp22.out.put _ _
        have Ffq23 : Hid (FB ((w22.setCell ⟨w17.heap.size, 0, none⟩ (.string u8)).setCell ⟨w17.heap.size, 1, none⟩ (.string v8)) w19.heap.size u7 v7) := Ffq22.out.other (fun e => Kfpfq.out e.symm) _ _
        have HB23 : Since w ((w22.setCell ⟨w17.heap.size, 0, none⟩ (.string u8)).setCell ⟨w17.heap.size, 1, none⟩ (.string v8)) := HB22.put Kwfp.out _ _
        have f0 := Ffp22.out.f0; have f1 := Ffp22.out.f1; have q0 := Ffp22.out.c0; have q1 := Ffp22.out.c1
        have r0fb := Ffb23.out.c0; have r1fb := Ffb23.out.c1
        have r0ft := Fft23.out.c0; have r1ft := Fft23.out.c1
        go_wp2_with fail
        clear r0fb r1fb r0ft r1ft
        clear f0 f1 q0 q1 Ffa22 Ffb22 Ffc22 Fft22 Ffp22 Ffq22 HB22
        generalize ((w22.setCell ⟨w17.heap.size, 0, none⟩ (.string u8)).setCell ⟨w17.heap.size, 1, none⟩ (.string v8)) = w23 at Ffa23 Ffb23 Ffc23 Fft23 Ffp23 Ffq23 HB23 ⊢
        refine (fmul_any x2 y2 x4 y4 u9 v9 c9 w23 (HB23.tab HT) E9).mono ?_
        rintro e w24 ⟨rfl, hb24⟩
        have hc24 : Since w23 w24 := hb24
        have HB24 : Since w w24 := HB23.next hc24.out
        have Ffa24 : Hid (FB w24 w2.heap.size x1 y1) := Ffa23.out.below hc24.out Ffa23.out.lt
        have Ffb24 : Hid (FB w24 w4.heap.size x2 y2) := Ffb23.out.below hc24.out Ffb23.out.lt
        have Ffc24 : Hid (FB w24 w6.heap.size x3 y3) := Ffc23.out.below hc24.out Ffc23.out.lt
        have Fft24 : Hid (FB w24 w8.heap.size x4 y4) := Fft23.out.below hc24.out Fft23.out.lt
        have Ffp24 : Hid (FB w24 w17.heap.size u8 v8) := Ffp23.out.below hc24.out Ffp23.out.lt
        have Ffq24 : Hid (FB w24 w19.heap.size u7 v7) := Ffq23.out.below hc24.out Ffq23.out.lt
        clear hb24 hc24 Ffa23 Ffb23 Ffc23 Fft23 Ffp23 Ffq23 HB23
        have Ffa25 : Hid (FB ((w24.setCell ⟨w19.heap.size, 0, none⟩ (.string u9)).setCell ⟨w19.heap.size, 1, none⟩ (.string v9)) w2.heap.size x1 y1) := Ffa24.out.other Kfafq.out _ _
        have Ffb25 : Hid (FB ((w24.setCell ⟨w19.heap.size, 0, none⟩ (.string u9)).setCell ⟨w19.heap.size, 1, none⟩ (.string v9)) w4.heap.size x2 y2) := Ffb24.out.other Kfbfq.out _ _
        have Ffc25 : Hid (FB ((w24.setCell ⟨w19.heap.size, 0, none⟩ (.string u9)).setCell ⟨w19.heap.size, 1, none⟩ (.string v9)) w6.heap.size x3 y3) := Ffc24.out.other Kfcfq.out _ _
        have Fft25 : Hid (FB ((w24.setCell ⟨w19.heap.size, 0, none⟩ (.string u9)).setCell ⟨w19.heap.size, 1, none⟩ (.string v9)) w8.heap.size x4 y4) := Fft24.out.other Kftfq.out _ _
        have Ffp25 : Hid (FB ((w24.setCell ⟨w19.heap.size, 0, none⟩ (.string u9)).setCell ⟨w19.heap.size, 1, none⟩ (.string v9)) w17.heap.size u8 v8) := Ffp24.out.other Kfpfq.out _ _
        have Ffq25 : Hid (FB ((w24.setCell ⟨w19.heap.size, 0, none⟩ (.string u9)).setCell ⟨w19.heap.size, 1, none⟩ (.string v9)) w19.heap.size u9 v9) := Ffq24.out.put _ _
        have HB25 : Since w ((w24.setCell ⟨w19.heap.size, 0, none⟩ (.string u9)).setCell ⟨w19.heap.size, 1, none⟩ (.string v9)) := HB24.put Kwfq.out _ _
        have f0 := Ffq24.out.f0; have f1 := Ffq24.out.f1; have q0 := Ffq24.out.c0; have q1 := Ffq24.out.c1
        go_upto_region 20 with fail
        clear f0 f1 q0 q1 Ffa24 Ffb24 Ffc24 Fft24 Ffp24 Ffq24 HB24
        generalize ((w24.setCell ⟨w19.heap.size, 0, none⟩ (.string u9)).setCell ⟨w19.heap.size, 1, none⟩ (.string v9)) = w25 at Ffa25 Ffb25 Ffc25 Fft25 Ffp25 Ffq25 HB25 ⊢
        have HTa : Hid (Tab w25) := HB25.tab HT
        have HSall : Hid (∀ W', Since w25 W' → Since w25 W' ∧ W'.cell? ⟨w17.heap.size, 0, none⟩ = some (.string u8) ∧ W'.cell? ⟨w17.heap.size, 1, none⟩ = some (.string v8) ∧ W'.cell? ⟨w19.heap.size, 0, none⟩ = some (.string u9) ∧ W'.cell? ⟨w19.heap.size, 1, none⟩ = some (.string v9) ∧ W'.cell? ⟨w8.heap.size, 0, none⟩ = some (.string x4) ∧ W'.cell? ⟨w8.heap.size, 1, none⟩ = some (.string y4)) := by
          intro W' h
          have gfp := Ffp25.out.below h.out Ffp25.out.lt
          have gfq := Ffq25.out.below h.out Ffq25.out.lt
          have gft := Fft25.out.below h.out Fft25.out.lt
          exact ⟨h, gfp.c0, gfp.c1, gfq.c0, gfq.c1, gft.c0, gft.c1⟩
        have HPd := HSall.out w25.drew (Since.refl w25).out.drew
        rcases D8.out with rfl | ⟨rfl, rfl⟩ | ⟨rfl, rfl, hcm⟩
        · skip
          go_quiet (fail)
          go_wp2
          go_ret
          exact ⟨rfl, (HB25.next (below_drewN (Below.refl _ _) _)).out⟩
        · skip
          go_quiet (fail)
          go_wp2
          go_ret
          exact ⟨rfl, (HB25.next (below_drewN (Below.refl _ _) _)).out⟩
        · have HCM := Lib.hid hcm
          clear hcm
          go_region_held3 (fun W' => Since w25 W' ∧ W'.cell? ⟨w17.heap.size, 0, none⟩ = some (.string u8) ∧ W'.cell? ⟨w17.heap.size, 1, none⟩ = some (.string v8) ∧ W'.cell? ⟨w19.heap.size, 0, none⟩ = some (.string u9) ∧ W'.cell? ⟨w19.heap.size, 1, none⟩ = some (.string v9) ∧ W'.cell? ⟨w8.heap.size, 0, none⟩ = some (.string x4) ∧ W'.cell? ⟨w8.heap.size, 1, none⟩ = some (.string y4))
            (first | assumption | exact HSall.out _ (sk_next (by assumption) HB2))
            (first
              | (go_at_call 16; refine (is_any _ _ _).mono ?_; rintro e W2 ⟨rfl, HB2⟩)
              | (go_at_call 14; with_reducible refine Calls.mono (fcmp_any u8 v8 u9 v9 m _ (sk_tab HTa (by assumption)) HCM) ?_; rintro e W2 ⟨rfl, HB2⟩)
              | (go_at_call 14; with_reducible refine Calls.mono (fcmp_any x4 y4 ⟨#[48]⟩ ⟨#[49]⟩ ct _ (sk_tab HTa (by assumption)) E10) ?_; rintro e W2 ⟨rfl, HB2⟩))
          go_wp2
          go_ret
          exact ⟨rfl, (HB25.next (sk_at (by assumption) : Since w25 _).out).out⟩

end Go.Proofs.Tryz
