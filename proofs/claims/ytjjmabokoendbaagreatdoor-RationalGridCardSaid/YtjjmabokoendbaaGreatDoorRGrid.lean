/- RationalGrid returns true: Down and Up are the grid's neighbours of a fraction. -/
import Derived.Test.YtjjmabokoendbaaGreatDoorGridP
import Derived.Deep.QuietTactic
import Derived.BigQuiet
namespace Go.Proofs.Tryz
open Go.RowKit Go.Shelf Go.Proofs.Dt

set_option maxHeartbeats 4000000 in
theorem lminus_any (x y u v : ByteArray) (w : World) (ht : Hid (Tab w)) (hr : Hid (out (subO grid01 (frac x.data.toList y.data.toList)) = (u, v, 0))) :
    Calls Tryz.prog 22 #[.agg #[.string x, .string y]] w fun e w' => e = .returned (.agg #[.string u, .string v]) ∧ Since w w' := by
  obtain ⟨ha, hb, hs⟩ := two_facts w x y ⟨#[]⟩ ⟨#[]⟩
  have HA := Lib.hid ha
  have HZ := Lib.hid hb
  have HB0 := hs
  have HT := ht
  clear ha hb hs ht
  have mixed : Tryz.prog.follows .mixedOrders = true := by kernel_rfl
  go_enter Tryz.func22, Tryz.ntmps22
  have r0r := HA.out.c0; have r1r := HA.out.c1
  go_wp2_with fail
  clear r0r r1r
  generalize ((w.alloc (.cells #[.string x, .string y] 26)).alloc (.cells #[.string ⟨#[]⟩, .string ⟨#[]⟩] 26)) = W0 at HA HZ HB0 ⊢
  go_upto_region 1 with fail
  go_cut [3, 4] from 5 (fun s3 s4 W => ∃ b3 : Nat, s3 = .pointer (some ⟨b3, 0, none⟩) ∧ s4 = .int .i64 0 ∧ FB W b3 u v ∧ W0.heap.size ≤ b3 ∧ Since W0 W)
  case first =>
    have HTa : Hid (Tab W0) := HB0.tab HT
    have HSall : Hid (∀ W', Since W0 W' → Since W0 W' ∧ W'.cell? ⟨w.heap.size, 0, none⟩ = some (.string x) ∧ W'.cell? ⟨w.heap.size, 1, none⟩ = some (.string y)) := by
      intro W' h
      have gr := HA.out.below h.out HA.out.lt
      exact ⟨h, gr.c0, gr.c1⟩
    have HPd := HSall.out W0.drew (Since.refl W0).out.drew
    go_region_held3 (fun W' => Since W0 W' ∧ W'.cell? ⟨w.heap.size, 0, none⟩ = some (.string x) ∧ W'.cell? ⟨w.heap.size, 1, none⟩ = some (.string y))
      (first | assumption | exact HSall.out _ (sk_next (by assumption) HB2) | exact HSall.out _ (sk_alloc (by assumption) _) | exact HSall.out _ (sk_realloc (by assumption) (by first | exact Nat.le_refl _ | assumption) _) | exact HSall.out _ (sk_put (by assumption) (by first | exact Nat.le_refl _ | assumption) _ _))
      (first
        | (go_at_call 16; refine (is_any (⟨#[48]⟩ : ByteArray) (⟨#[49]⟩ : ByteArray) _).mono ?_; rintro e W2 ⟨rfl, HB2⟩; have hz2 := sk_size (by assumption) HB2; (first | have HK2 := FB.held HB2 | have HK2 := FB.heldd HB2 | skip); (try have k0 := HK2.c0); (try have k1 := HK2.c1); (try have k2 := HK2.f0); (try have k3 := HK2.f1))
        | (go_at_call 15; refine (fsub_any (⟨#[48]⟩ : ByteArray) (⟨#[49]⟩ : ByteArray) x y u v 0 _ (sk_tab HTa (by assumption)) hr).mono ?_; rintro e W3 ⟨rfl, HB2⟩; have hz3 := sk_size (by assumption) HB2; (first | have HK3 := FB.held HB2 | have HK3 := FB.heldd HB2 | have HK3 := FB.below HK2 HB2.out HK2.lt | skip); (try have k4 := HK3.c0); (try have k5 := HK3.c1); (try have k6 := HK3.f0); (try have k7 := HK3.f1)))
    all_goals
      (go_wp2_with fail
       go_meet
       case rel => first | exact ⟨_, rfl, rfl, FB.new _ _ _, by first | exact hz3 | exact Nat.le_refl _, sk_at (by assumption)⟩ | exact ⟨_, rfl, rfl, HK3.put _ _, by first | exact Nat.le_refl _ | exact hz2 | exact hz3, sk_at (by assumption)⟩)
  case rest =>
    obtain ⟨ks, hps, hqs, hbs, hls, hc1⟩ := hcut
    subst hps hqs
    have HB1 : Since w wc := HB0.next hc1.out
    have Fr1 : Hid (FB wc w.heap.size x y) := HA.out.below hc1.out HA.out.lt
    have Fz1 : Hid (FB wc (w.heap.size + 1) ⟨#[]⟩ ⟨#[]⟩) := HZ.out.below hc1.out HZ.out.lt
    have Fs1 : Hid (FB wc ks u v) := hbs
    clear hc1 hbs hls HA HZ
    generalize wc = w1 at Fr1 Fz1 Fs1 HB1 ⊢
    have f0 := Fz1.out.f0; have f1 := Fz1.out.f1; have q0 := Fz1.out.c0; have q1 := Fz1.out.c1; have g0 := Fs1.out.c0; have g1 := Fs1.out.c1
    go_wp2
    refine bodyPost_ret (results_row (p := 2) (by kernel_rfl) _ _ (w.heap.size + 1) _ _ rfl (Fz1.out.put _ _)) rfl ?_
    exact ⟨rfl, HB1.put (by omega) _ _⟩

theorem gten_size (k : Nat) : (ten k).size = k + 1 := by show (49 :: List.replicate k (48 : UInt8)).toArray.size = _; simp
theorem long_lim {q : Rat} (h : q.num.natAbs < 10 ^ 100 ∧ q.den < 10 ^ 100) : q.num.natAbs < 10 ^ 100 ∧ (q.den : Int).natAbs < 10 ^ 100 := ⟨h.1, by rw [Int.natAbs_natCast]; exact h.2⟩

set_option maxHeartbeats 4000000 in
set_option maxRecDepth 100000 in
theorem rationalGrid_any (a0 a1 a2 a3 x1 : Int) (w : World) (ht : Tab w) (hm : Lens w) (hi : ∀ x ∈ [a0, a1, a2, a3, x1], I64 x) :
    Calls Tryz.prog 4 #[.agg #[.int .i64 a0, .int .i64 a1, .int .i64 a2, .int .i64 a3], .int .i64 x1] w fun e w' => e = .returned (.bool true) ∧ Below w.heap.size w w' := by
  have HT := Lib.hid ht
  have HM := Lib.hid hm
  have HI := Lib.hid hi
  clear ht hm hi
  have FA0 : Hid (AB4 (w.alloc (.cells #[.int .i64 a0, .int .i64 a1, .int .i64 a2, .int .i64 a3] 22)) w.heap.size a0 a1 a2 a3) := alloc_get w _ _ _ rfl
  have HB0 : Since w (w.alloc (.cells #[.int .i64 a0, .int .i64 a1, .int .i64 a2, .int .i64 a3] 22)) := (Below.refl _ w).alloc (Nat.le_refl _) _
  have mixed : Tryz.prog.follows .mixedOrders = true := by kernel_rfl
  go_enter Tryz.func4, Tryz.ntmps4
  go_wp2_with fail
  generalize (w.alloc (.cells #[.int .i64 a0, .int .i64 a1, .int .i64 a2, .int .i64 a3] 22)) = W0 at FA0 HB0 ⊢
  refine (sane_to w W0 HT HM HB0).mono ?_
  rintro e w1 ⟨rfl, hb1⟩
  have hc1 : Since W0 w1 := hb1
  have HB1 : Since w w1 := HB0.next hc1.out
  have FA1 : Hid (AB4 w1 w.heap.size a0 a1 a2 a3) := FA0.out.below hc1.out FA0.out.lt
  clear hb1 hc1 FA0
  have r0A := FA1.out.c0; have r1A := FA1.out.c1; have r2A := FA1.out.c2; have r3A := FA1.out.c3
  go_wp2_with fail
  clear r0A r1A r2A r3A
  refine (long_any a0 a1 a2 a3 w1 (HI.out a0 (by simp)) (HI.out a1 (by simp)) (HI.out a2 (by simp)) (HI.out a3 (by simp))).mono ?_
  rintro e w2 ⟨x1', y1, R, rfl, HR, hb2⟩
  have hc2 : Since w1 w2 := hb2
  have HB2 : Since w w2 := HB1.next hc2.out
  have FA2 : Hid (AB4 w2 w.heap.size a0 a1 a2 a3) := FA1.out.below hc2.out FA1.out.lt
  clear hb2 hc2 FA1 HB1
  clear FA2
  obtain ⟨p, hp⟩ : ∃ p : Nat, (p : Int) = pickZ x1 31 := ⟨(pickZ x1 31).toNat, by have := pickZ_in x1 (n := 31) (by decide); omega⟩
  have bp : p ≤ 30 := by have := pickZ_in x1 (n := 31) (by decide); omega
  have HP : Hid (∀ W, Calls Tryz.prog 19 #[.int .i64 x1, .int .i64 31] W fun e w' => e = .returned (.int .i64 (p : Int)) ∧ Since W w') := fun W => by
    rw [hp]; exact (lpick_any x1 31 (HI.out x1 (by simp)) (by decide) (by decide) W).mono fun e w' h => ⟨h.1, by rw [← h.2]; exact Since.refl W⟩
  obtain ⟨p1, p2, q1, q2, c1, c2, m1, m2, n1, v1, v2, qa, qb, e1, e2, e3, e4, e5, e6, e7, e8, e9, e10, e11, ec⟩ := grid_facts HR.out.1 HR.out.2.1 HR.out.2.2 bp
  have E1 := Lib.hid e1; have E2 := Lib.hid e2; have E3 := Lib.hid e3; have E4 := Lib.hid e4; have E5 := Lib.hid e5; have E6 := Lib.hid e6
  have E7 := Lib.hid e7; have E8 := Lib.hid e8; have E9 := Lib.hid e9; have E10 := Lib.hid e10; have E11 := Lib.hid e11; have EC := Lib.hid ec
  clear e1 e2 e3 e4 e5 e6 e7 e8 e9 e10 e11 ec hp HR
  have hA3 : Since w2 (w2.alloc (.cells #[.string x1', .string y1] 26)) := (Below.refl _ w2).alloc (Nat.le_refl _) _
  have HB3 : Since w (w2.alloc (.cells #[.string x1', .string y1] 26)) := HB2.next hA3.out
  have Fr3 : Hid (FB (w2.alloc (.cells #[.string x1', .string y1] 26)) w2.heap.size x1' y1) := FB.new _ _ _
  clear hA3  HB2
  go_wp2_with fail
  generalize (w2.alloc (.cells #[.string x1', .string y1] 26)) = w3 at Fr3 HB3 ⊢
  refine (HP.out w3).mono ?_
  rintro e w4 ⟨rfl, hb4⟩
  have hc4 : Since w3 w4 := hb4
  have HB4 : Since w w4 := HB3.next hc4.out
  have Fr4 : Hid (FB w4 w2.heap.size x1' y1) := Fr3.out.below hc4.out Fr3.out.lt
  clear hb4 hc4 Fr3 HB3
  clear HP
  go_wp2_with fail
  skip
  go_loop [7, 8] (fun v i => ∃ k : Nat, k ≤ p ∧ v = .string (ten k) ∧ i = .int .i64 (k : Int)) (fun _ i => p - (intOf i).toNat)
  case atStart => exact ⟨0, by omega, rfl, rfl⟩
  case round =>
    obtain ⟨k, hk, rfl, rfl⟩ := hrel
    by_cases hlt : k < p
    · have hsz := gten_size k
      have hks : k + 1 ≤ 300 := by omega
      go_wp2_with fail
      go_round
      case rel => exact ⟨k + 1, by omega, by rw [ten_next], by go_num⟩
      case measure => simp [intOf]; omega
    · have hkn : p = k := by omega
      subst hkn
      clear hk hlt
      have r0r := Fr4.out.c0; have r1r := Fr4.out.c1
      go_wp2_with fail
      clear r0r r1r
      refine (fdown_any x1' y1 p1 p2 p 0 w4 (HB4.tab HT) E1).mono ?_
      rintro e w5 ⟨rfl, hb5⟩
      have hc5 : Since w4 w5 := hb5
      have HB5 : Since w w5 := HB4.next hc5.out
      have Fr5 : Hid (FB w5 w2.heap.size x1' y1) := Fr4.out.below hc5.out Fr4.out.lt
      clear hb5 hc5 Fr4 HB4
      have hA6 : Since w5 (w5.alloc (.cells #[.string p1, .string p2] 26)) := (Below.refl _ w5).alloc (Nat.le_refl _) _
      have Fr6 : Hid (FB (w5.alloc (.cells #[.string p1, .string p2] 26)) w2.heap.size x1' y1) := Fr5.out.below hA6.out Fr5.out.lt
      have HB6 : Since w (w5.alloc (.cells #[.string p1, .string p2] 26)) := HB5.next hA6.out
      have Fa6 : Hid (FB (w5.alloc (.cells #[.string p1, .string p2] 26)) w5.heap.size p1 p2) := FB.new _ _ _
      clear hA6 Fr5 HB5
      have r0r := Fr6.out.c0; have r1r := Fr6.out.c1
      go_wp2_with fail
      clear r0r r1r
      generalize (w5.alloc (.cells #[.string p1, .string p2] 26)) = w6 at Fr6 Fa6 HB6 ⊢
      refine (fup_any x1' y1 q1 q2 p 0 w6 (HB6.tab HT) E2).mono ?_
      rintro e w7 ⟨rfl, hb7⟩
      have hc7 : Since w6 w7 := hb7
      have HB7 : Since w w7 := HB6.next hc7.out
      have Fr7 : Hid (FB w7 w2.heap.size x1' y1) := Fr6.out.below hc7.out Fr6.out.lt
      have Fa7 : Hid (FB w7 w5.heap.size p1 p2) := Fa6.out.below hc7.out Fa6.out.lt
      clear hb7 hc7 Fr6 Fa6 HB6
      have hA8 : Since w7 (w7.alloc (.cells #[.string q1, .string q2] 26)) := (Below.refl _ w7).alloc (Nat.le_refl _) _
      have Fr8 : Hid (FB (w7.alloc (.cells #[.string q1, .string q2] 26)) w2.heap.size x1' y1) := Fr7.out.below hA8.out Fr7.out.lt
      have Fa8 : Hid (FB (w7.alloc (.cells #[.string q1, .string q2] 26)) w5.heap.size p1 p2) := Fa7.out.below hA8.out Fa7.out.lt
      have HB8 : Since w (w7.alloc (.cells #[.string q1, .string q2] 26)) := HB7.next hA8.out
      have Fb8 : Hid (FB (w7.alloc (.cells #[.string q1, .string q2] 26)) w7.heap.size q1 q2) := FB.new _ _ _
      clear hA8 Fr7 Fa7 HB7
      have r0r := Fr8.out.c0; have r1r := Fr8.out.c1
      go_wp2_with fail
      clear r0r r1r
      generalize (w7.alloc (.cells #[.string q1, .string q2] 26)) = w8 at Fr8 Fa8 Fb8 HB8 ⊢
      refine (lminus_any x1' y1 m1 m2 w8 (HB8.tab HT) E3).mono ?_
      rintro e w9 ⟨rfl, hb9⟩
      have hc9 : Since w8 w9 := hb9
      have HB9 : Since w w9 := HB8.next hc9.out
      have Fr9 : Hid (FB w9 w2.heap.size x1' y1) := Fr8.out.below hc9.out Fr8.out.lt
      have Fa9 : Hid (FB w9 w5.heap.size p1 p2) := Fa8.out.below hc9.out Fa8.out.lt
      have Fb9 : Hid (FB w9 w7.heap.size q1 q2) := Fb8.out.below hc9.out Fb8.out.lt
      clear hb9 hc9 Fr8 Fa8 Fb8 HB8
      go_wp2_with fail
      refine (fdown_any m1 m2 c1 c2 p 0 w9 (HB9.tab HT) E4).mono ?_
      rintro e w10 ⟨rfl, hb10⟩
      have hc10 : Since w9 w10 := hb10
      have HB10 : Since w w10 := HB9.next hc10.out
      have Fr10 : Hid (FB w10 w2.heap.size x1' y1) := Fr9.out.below hc10.out Fr9.out.lt
      have Fa10 : Hid (FB w10 w5.heap.size p1 p2) := Fa9.out.below hc10.out Fa9.out.lt
      have Fb10 : Hid (FB w10 w7.heap.size q1 q2) := Fb9.out.below hc10.out Fb9.out.lt
      clear hb10 hc10 Fr9 Fa9 Fb9 HB9
      have hA11 : Since w10 (w10.alloc (.cells #[.string c1, .string c2] 26)) := (Below.refl _ w10).alloc (Nat.le_refl _) _
      have Fr11 : Hid (FB (w10.alloc (.cells #[.string c1, .string c2] 26)) w2.heap.size x1' y1) := Fr10.out.below hA11.out Fr10.out.lt
      have Fa11 : Hid (FB (w10.alloc (.cells #[.string c1, .string c2] 26)) w5.heap.size p1 p2) := Fa10.out.below hA11.out Fa10.out.lt
      have Fb11 : Hid (FB (w10.alloc (.cells #[.string c1, .string c2] 26)) w7.heap.size q1 q2) := Fb10.out.below hA11.out Fb10.out.lt
      have HB11 : Since w (w10.alloc (.cells #[.string c1, .string c2] 26)) := HB10.next hA11.out
      have Fc11 : Hid (FB (w10.alloc (.cells #[.string c1, .string c2] 26)) w10.heap.size c1 c2) := FB.new _ _ _
      clear hA11 Fr10 Fa10 Fb10 HB10
      go_upto_region 12 with fail
      generalize (w10.alloc (.cells #[.string c1, .string c2] 26)) = w11 at Fr11 Fa11 Fb11 Fc11 HB11 ⊢
      go_cut [83] from 25 (fun s83 W => s83 = .bool false ∧ Since w11 W)
      case first =>
        have HTa : Hid (Tab w11) := HB11.tab HT
        have HSall : Hid (∀ W', Since w11 W' → Since w11 W' ∧ W'.cell? ⟨w2.heap.size, 0, none⟩ = some (.string x1') ∧ W'.cell? ⟨w2.heap.size, 1, none⟩ = some (.string y1) ∧ W'.cell? ⟨w5.heap.size, 0, none⟩ = some (.string p1) ∧ W'.cell? ⟨w5.heap.size, 1, none⟩ = some (.string p2) ∧ W'.cell? ⟨w7.heap.size, 0, none⟩ = some (.string q1) ∧ W'.cell? ⟨w7.heap.size, 1, none⟩ = some (.string q2) ∧ W'.cell? ⟨w10.heap.size, 0, none⟩ = some (.string c1) ∧ W'.cell? ⟨w10.heap.size, 1, none⟩ = some (.string c2)) := by
          intro W' h
          have gr := Fr11.out.below h.out Fr11.out.lt
          have ga := Fa11.out.below h.out Fa11.out.lt
          have gb := Fb11.out.below h.out Fb11.out.lt
          have gc := Fc11.out.below h.out Fc11.out.lt
          exact ⟨h, gr.c0, gr.c1, ga.c0, ga.c1, gb.c0, gb.c1, gc.c0, gc.c1⟩
        have HPd := HSall.out w11.drew (Since.refl w11).out.drew
        rcases EC.out with ⟨rfl, rfl, _, _⟩ | ⟨rfl, rfl, _, _⟩
        · skip
          go_region_held3 (fun W' => Since w11 W' ∧ W'.cell? ⟨w2.heap.size, 0, none⟩ = some (.string x1') ∧ W'.cell? ⟨w2.heap.size, 1, none⟩ = some (.string y1) ∧ W'.cell? ⟨w5.heap.size, 0, none⟩ = some (.string p1) ∧ W'.cell? ⟨w5.heap.size, 1, none⟩ = some (.string p2) ∧ W'.cell? ⟨w7.heap.size, 0, none⟩ = some (.string q1) ∧ W'.cell? ⟨w7.heap.size, 1, none⟩ = some (.string q2) ∧ W'.cell? ⟨w10.heap.size, 0, none⟩ = some (.string c1) ∧ W'.cell? ⟨w10.heap.size, 1, none⟩ = some (.string c2))
            (first | assumption | exact HSall.out _ (sk_next (by assumption) HB2))
            (first
              | (go_at_call 22; with_reducible refine Calls.mono (lminus_any c1 c2 q1 q2 _ (sk_tab HTa (by assumption)) E5) ?_; rintro e W2 ⟨rfl, HB2⟩)
              | (go_at_call 14; with_reducible refine Calls.mono (fcmp_any p1 p2 x1' y1 _ _ (sk_tab HTa (by assumption)) E6) ?_; rintro e W2 ⟨rfl, HB2⟩)
              | (go_at_call 14; with_reducible refine Calls.mono (fcmp_any q1 q2 x1' y1 _ _ (sk_tab HTa (by assumption)) E7) ?_; rintro e W2 ⟨rfl, HB2⟩))
          go_wp2_with fail
          go_meet
          case rel => exact ⟨rfl, sk_at (by assumption)⟩
        · skip
          go_region_held3 (fun W' => Since w11 W' ∧ W'.cell? ⟨w2.heap.size, 0, none⟩ = some (.string x1') ∧ W'.cell? ⟨w2.heap.size, 1, none⟩ = some (.string y1) ∧ W'.cell? ⟨w5.heap.size, 0, none⟩ = some (.string p1) ∧ W'.cell? ⟨w5.heap.size, 1, none⟩ = some (.string p2) ∧ W'.cell? ⟨w7.heap.size, 0, none⟩ = some (.string q1) ∧ W'.cell? ⟨w7.heap.size, 1, none⟩ = some (.string q2) ∧ W'.cell? ⟨w10.heap.size, 0, none⟩ = some (.string c1) ∧ W'.cell? ⟨w10.heap.size, 1, none⟩ = some (.string c2))
            (first | assumption | exact HSall.out _ (sk_next (by assumption) HB2))
            (first
              | (go_at_call 22; with_reducible refine Calls.mono (lminus_any c1 c2 q1 q2 _ (sk_tab HTa (by assumption)) E5) ?_; rintro e W2 ⟨rfl, HB2⟩)
              | (go_at_call 14; with_reducible refine Calls.mono (fcmp_any p1 p2 x1' y1 _ _ (sk_tab HTa (by assumption)) E6) ?_; rintro e W2 ⟨rfl, HB2⟩)
              | (go_at_call 14; with_reducible refine Calls.mono (fcmp_any q1 q2 x1' y1 _ _ (sk_tab HTa (by assumption)) E7) ?_; rintro e W2 ⟨rfl, HB2⟩))
          go_wp2_with fail
          go_meet
          case rel => exact ⟨rfl, sk_at (by assumption)⟩
      case rest =>
        obtain ⟨h83, hc12⟩ := hcut
        have HB12 : Since w wc := HB11.next hc12.out
        have Fr12 : Hid (FB wc w2.heap.size x1' y1) := Fr11.out.below hc12.out Fr11.out.lt
        have Fa12 : Hid (FB wc w5.heap.size p1 p2) := Fa11.out.below hc12.out Fa11.out.lt
        have Fb12 : Hid (FB wc w7.heap.size q1 q2) := Fb11.out.below hc12.out Fb11.out.lt
        have Fc12 : Hid (FB wc w10.heap.size c1 c2) := Fc11.out.below hc12.out Fc11.out.lt
        clear hc12 Fr11 Fa11 Fb11 Fc11 HB11
        generalize wc = w12 at Fr12 Fa12 Fb12 Fc12 HB12 ⊢
        subst h83
        clear Fc12
        have r0b := Fb12.out.c0; have r1b := Fb12.out.c1
        go_wp2_with fail
        clear r0b r1b
        refine (fdown_any q1 q2 q1 q2 p 0 w12 (HB12.tab HT) E8).mono ?_
        rintro e w13 ⟨rfl, hb13⟩
        have hc13 : Since w12 w13 := hb13
        have HB13 : Since w w13 := HB12.next hc13.out
        have Fr13 : Hid (FB w13 w2.heap.size x1' y1) := Fr12.out.below hc13.out Fr12.out.lt
        have Fa13 : Hid (FB w13 w5.heap.size p1 p2) := Fa12.out.below hc13.out Fa12.out.lt
        have Fb13 : Hid (FB w13 w7.heap.size q1 q2) := Fb12.out.below hc13.out Fb12.out.lt
        clear hb13 hc13 Fr12 Fa12 Fb12 HB12
        have hA14 : Since w13 (w13.alloc (.cells #[.string q1, .string q2] 26)) := (Below.refl _ w13).alloc (Nat.le_refl _) _
        have Fr14 : Hid (FB (w13.alloc (.cells #[.string q1, .string q2] 26)) w2.heap.size x1' y1) := Fr13.out.below hA14.out Fr13.out.lt
        have Fa14 : Hid (FB (w13.alloc (.cells #[.string q1, .string q2] 26)) w5.heap.size p1 p2) := Fa13.out.below hA14.out Fa13.out.lt
        have Fb14 : Hid (FB (w13.alloc (.cells #[.string q1, .string q2] 26)) w7.heap.size q1 q2) := Fb13.out.below hA14.out Fb13.out.lt
        have HB14 : Since w (w13.alloc (.cells #[.string q1, .string q2] 26)) := HB13.next hA14.out
        have Fag14 : Hid (FB (w13.alloc (.cells #[.string q1, .string q2] 26)) w13.heap.size q1 q2) := FB.new _ _ _
        clear hA14 Fr13 Fa13 Fb13 HB13
        have r0a := Fa14.out.c0; have r1a := Fa14.out.c1
        go_wp2_with fail
        clear r0a r1a
        generalize (w13.alloc (.cells #[.string q1, .string q2] 26)) = w14 at Fr14 Fa14 Fb14 Fag14 HB14 ⊢
        refine (fup_any p1 p2 p1 p2 p 0 w14 (HB14.tab HT) E9).mono ?_
        rintro e w15 ⟨rfl, hb15⟩
        have hc15 : Since w14 w15 := hb15
        have HB15 : Since w w15 := HB14.next hc15.out
        have Fr15 : Hid (FB w15 w2.heap.size x1' y1) := Fr14.out.below hc15.out Fr14.out.lt
        have Fa15 : Hid (FB w15 w5.heap.size p1 p2) := Fa14.out.below hc15.out Fa14.out.lt
        have Fb15 : Hid (FB w15 w7.heap.size q1 q2) := Fb14.out.below hc15.out Fb14.out.lt
        have Fag15 : Hid (FB w15 w13.heap.size q1 q2) := Fag14.out.below hc15.out Fag14.out.lt
        clear hb15 hc15 Fr14 Fa14 Fb14 Fag14 HB14
        have hA16 : Since w15 (w15.alloc (.cells #[.string p1, .string p2] 26)) := (Below.refl _ w15).alloc (Nat.le_refl _) _
        have Fr16 : Hid (FB (w15.alloc (.cells #[.string p1, .string p2] 26)) w2.heap.size x1' y1) := Fr15.out.below hA16.out Fr15.out.lt
        have Fa16 : Hid (FB (w15.alloc (.cells #[.string p1, .string p2] 26)) w5.heap.size p1 p2) := Fa15.out.below hA16.out Fa15.out.lt
        have Fb16 : Hid (FB (w15.alloc (.cells #[.string p1, .string p2] 26)) w7.heap.size q1 q2) := Fb15.out.below hA16.out Fb15.out.lt
        have Fag16 : Hid (FB (w15.alloc (.cells #[.string p1, .string p2] 26)) w13.heap.size q1 q2) := Fag15.out.below hA16.out Fag15.out.lt
        have HB16 : Since w (w15.alloc (.cells #[.string p1, .string p2] 26)) := HB15.next hA16.out
        have Ftw16 : Hid (FB (w15.alloc (.cells #[.string p1, .string p2] 26)) w15.heap.size p1 p2) := FB.new _ _ _
        clear hA16 Fr15 Fa15 Fb15 Fag15 HB15
        go_upto_region 17 with fail
        generalize (w15.alloc (.cells #[.string p1, .string p2] 26)) = w16 at Fr16 Fa16 Fb16 Fag16 Ftw16 HB16 ⊢
        go_cut [19, 20] from 25 (fun s19 s20 W => ∃ b3 : Nat, s19 = .pointer (some ⟨b3, 0, none⟩) ∧ s20 = .int .i64 0 ∧ FB W b3 n1 (⟨#[49]⟩ : ByteArray) ∧ w16.heap.size ≤ b3 ∧ Since w16 W)
        case first =>
          have HTa : Hid (Tab w16) := HB16.tab HT
          have HSall : Hid (∀ W', Since w16 W' → Since w16 W' ∧ W'.cell? ⟨w5.heap.size, 0, none⟩ = some (.string p1) ∧ W'.cell? ⟨w5.heap.size, 1, none⟩ = some (.string p2) ∧ W'.cell? ⟨w7.heap.size, 0, none⟩ = some (.string q1) ∧ W'.cell? ⟨w7.heap.size, 1, none⟩ = some (.string q2) ∧ W'.cell? ⟨w2.heap.size, 0, none⟩ = some (.string x1') ∧ W'.cell? ⟨w2.heap.size, 1, none⟩ = some (.string y1) ∧ W'.cell? ⟨w13.heap.size, 0, none⟩ = some (.string q1) ∧ W'.cell? ⟨w13.heap.size, 1, none⟩ = some (.string q2) ∧ W'.cell? ⟨w15.heap.size, 0, none⟩ = some (.string p1) ∧ W'.cell? ⟨w15.heap.size, 1, none⟩ = some (.string p2)) := by
            intro W' h
            have ga := Fa16.out.below h.out Fa16.out.lt
            have gb := Fb16.out.below h.out Fb16.out.lt
            have gr := Fr16.out.below h.out Fr16.out.lt
            have gag := Fag16.out.below h.out Fag16.out.lt
            have gtw := Ftw16.out.below h.out Ftw16.out.lt
            exact ⟨h, ga.c0, ga.c1, gb.c0, gb.c1, gr.c0, gr.c1, gag.c0, gag.c1, gtw.c0, gtw.c1⟩
          have HPd := HSall.out w16.drew (Since.refl w16).out.drew
          go_region_held3 (fun W' => Since w16 W' ∧ W'.cell? ⟨w5.heap.size, 0, none⟩ = some (.string p1) ∧ W'.cell? ⟨w5.heap.size, 1, none⟩ = some (.string p2) ∧ W'.cell? ⟨w7.heap.size, 0, none⟩ = some (.string q1) ∧ W'.cell? ⟨w7.heap.size, 1, none⟩ = some (.string q2) ∧ W'.cell? ⟨w2.heap.size, 0, none⟩ = some (.string x1') ∧ W'.cell? ⟨w2.heap.size, 1, none⟩ = some (.string y1) ∧ W'.cell? ⟨w13.heap.size, 0, none⟩ = some (.string q1) ∧ W'.cell? ⟨w13.heap.size, 1, none⟩ = some (.string q2) ∧ W'.cell? ⟨w15.heap.size, 0, none⟩ = some (.string p1) ∧ W'.cell? ⟨w15.heap.size, 1, none⟩ = some (.string p2))
            (first | assumption | exact HSall.out _ (sk_next (by assumption) HB2) | exact HSall.out _ (sk_alloc (by assumption) _) | exact HSall.out _ (sk_realloc (by assumption) (by first | exact Nat.le_refl _ | assumption) _) | exact HSall.out _ (sk_put (by assumption) (by first | exact Nat.le_refl _ | assumption) _ _))
            (first
              | (go_at_call 16; refine (is_any (ten p) (⟨#[49]⟩ : ByteArray) _).mono ?_; rintro e W2 ⟨rfl, HB2⟩; have hz2 := sk_size (by assumption) HB2; (first | have HK2 := FB.held HB2 | have HK2 := FB.heldd HB2 | skip); (try have k0 := HK2.c0); (try have k1 := HK2.c1); (try have k2 := HK2.f0); (try have k3 := HK2.f1))
              | (go_at_call 18; refine (fmul_any p1 p2 (ten p) (⟨#[49]⟩ : ByteArray) n1 (⟨#[49]⟩ : ByteArray) 0 _ (sk_tab HTa (by assumption)) E10).mono ?_; rintro e W3 ⟨rfl, HB2⟩; have hz3 := sk_size (by assumption) HB2; (first | have HK3 := FB.held HB2 | have HK3 := FB.heldd HB2 | have HK3 := FB.below HK2 HB2.out HK2.lt | skip); (try have k4 := HK3.c0); (try have k5 := HK3.c1); (try have k6 := HK3.f0); (try have k7 := HK3.f1)))
          all_goals
            (go_wp2_with fail
             go_meet
             case rel => first | exact ⟨_, rfl, rfl, FB.new _ _ _, by first | exact hz3 | exact Nat.le_refl _, sk_at (by assumption)⟩ | exact ⟨_, rfl, rfl, HK3.put _ _, by first | exact Nat.le_refl _ | exact hz2 | exact hz3, sk_at (by assumption)⟩)
        case rest =>
          obtain ⟨kn, hpn, hqn, hbn, hln, hc17⟩ := hcut
          subst hpn hqn
          have HB17 : Since w wc := HB16.next hc17.out
          have Fr17 : Hid (FB wc w2.heap.size x1' y1) := Fr16.out.below hc17.out Fr16.out.lt
          have Fa17 : Hid (FB wc w5.heap.size p1 p2) := Fa16.out.below hc17.out Fa16.out.lt
          have Fb17 : Hid (FB wc w7.heap.size q1 q2) := Fb16.out.below hc17.out Fb16.out.lt
          have Fag17 : Hid (FB wc w13.heap.size q1 q2) := Fag16.out.below hc17.out Fag16.out.lt
          have Ftw17 : Hid (FB wc w15.heap.size p1 p2) := Ftw16.out.below hc17.out Ftw16.out.lt
          have Fn17 : Hid (FB wc kn n1 (⟨#[49]⟩ : ByteArray)) := hbn
          clear hc17 hbn hln Fr16 Fa16 Fb16 Fag16 Ftw16 HB16
          generalize wc = w17 at Fr17 Fa17 Fb17 Fag17 Ftw17 Fn17 HB17 ⊢
          have r0a := Fa17.out.c0; have r1a := Fa17.out.c1
          have r0b := Fb17.out.c0; have r1b := Fb17.out.c1
          go_wp2_with fail
          clear r0a r1a r0b r1b
          refine (fsub_any q1 q2 p1 p2 v1 v2 0 w17 (HB17.tab HT) E11).mono ?_
          rintro e w18 ⟨rfl, hb18⟩
          have hc18 : Since w17 w18 := hb18
          have HB18 : Since w w18 := HB17.next hc18.out
          have Fr18 : Hid (FB w18 w2.heap.size x1' y1) := Fr17.out.below hc18.out Fr17.out.lt
          have Fa18 : Hid (FB w18 w5.heap.size p1 p2) := Fa17.out.below hc18.out Fa17.out.lt
          have Fb18 : Hid (FB w18 w7.heap.size q1 q2) := Fb17.out.below hc18.out Fb17.out.lt
          have Fag18 : Hid (FB w18 w13.heap.size q1 q2) := Fag17.out.below hc18.out Fag17.out.lt
          have Ftw18 : Hid (FB w18 w15.heap.size p1 p2) := Ftw17.out.below hc18.out Ftw17.out.lt
          have Fn18 : Hid (FB w18 kn n1 (⟨#[49]⟩ : ByteArray)) := Fn17.out.below hc18.out Fn17.out.lt
          clear hb18 hc18 Fr17 Fa17 Fb17 Fag17 Ftw17 Fn17 HB17
          rcases EC.out with ⟨rfl, rfl, rfl, rfl⟩ | ⟨rfl, rfl, rfl, rfl⟩
          · clear EC
            have hA19 : Since w18 (w18.alloc (.cells #[.string (⟨#[48]⟩ : ByteArray), .string (⟨#[49]⟩ : ByteArray)] 26)) := (Below.refl _ w18).alloc (Nat.le_refl _) _
            have Fr19 : Hid (FB (w18.alloc (.cells #[.string (⟨#[48]⟩ : ByteArray), .string (⟨#[49]⟩ : ByteArray)] 26)) w2.heap.size x1' y1) := Fr18.out.below hA19.out Fr18.out.lt
            have Fa19 : Hid (FB (w18.alloc (.cells #[.string (⟨#[48]⟩ : ByteArray), .string (⟨#[49]⟩ : ByteArray)] 26)) w5.heap.size p1 p2) := Fa18.out.below hA19.out Fa18.out.lt
            have Fb19 : Hid (FB (w18.alloc (.cells #[.string (⟨#[48]⟩ : ByteArray), .string (⟨#[49]⟩ : ByteArray)] 26)) w7.heap.size q1 q2) := Fb18.out.below hA19.out Fb18.out.lt
            have Fag19 : Hid (FB (w18.alloc (.cells #[.string (⟨#[48]⟩ : ByteArray), .string (⟨#[49]⟩ : ByteArray)] 26)) w13.heap.size q1 q2) := Fag18.out.below hA19.out Fag18.out.lt
            have Ftw19 : Hid (FB (w18.alloc (.cells #[.string (⟨#[48]⟩ : ByteArray), .string (⟨#[49]⟩ : ByteArray)] 26)) w15.heap.size p1 p2) := Ftw18.out.below hA19.out Ftw18.out.lt
            have Fn19 : Hid (FB (w18.alloc (.cells #[.string (⟨#[48]⟩ : ByteArray), .string (⟨#[49]⟩ : ByteArray)] 26)) kn n1 (⟨#[49]⟩ : ByteArray)) := Fn18.out.below hA19.out Fn18.out.lt
            have HB19 : Since w (w18.alloc (.cells #[.string (⟨#[48]⟩ : ByteArray), .string (⟨#[49]⟩ : ByteArray)] 26)) := HB18.next hA19.out
            have Fwi19 : Hid (FB (w18.alloc (.cells #[.string (⟨#[48]⟩ : ByteArray), .string (⟨#[49]⟩ : ByteArray)] 26)) w18.heap.size (⟨#[48]⟩ : ByteArray) (⟨#[49]⟩ : ByteArray)) := FB.new _ _ _
            clear hA19 Fr18 Fa18 Fb18 Fag18 Ftw18 Fn18 HB18
            have r0r := Fr19.out.c0; have r1r := Fr19.out.c1
            have r0a := Fa19.out.c0; have r1a := Fa19.out.c1
            go_wp2_with fail
            clear r0r r1r r0a r1a
            generalize (w18.alloc (.cells #[.string (⟨#[48]⟩ : ByteArray), .string (⟨#[49]⟩ : ByteArray)] 26)) = w19 at Fr19 Fa19 Fb19 Fag19 Ftw19 Fn19 Fwi19 HB19 ⊢
            refine (fcmp_any p1 p2 x1' y1 (0) w19 (HB19.tab HT) E6).mono ?_
            rintro e w20 ⟨rfl, hb20⟩
            have hc20 : Since w19 w20 := hb20
            have HB20 : Since w w20 := HB19.next hc20.out
            have Fr20 : Hid (FB w20 w2.heap.size x1' y1) := Fr19.out.below hc20.out Fr19.out.lt
            have Fa20 : Hid (FB w20 w5.heap.size p1 p2) := Fa19.out.below hc20.out Fa19.out.lt
            have Fb20 : Hid (FB w20 w7.heap.size q1 q2) := Fb19.out.below hc20.out Fb19.out.lt
            have Fag20 : Hid (FB w20 w13.heap.size q1 q2) := Fag19.out.below hc20.out Fag19.out.lt
            have Ftw20 : Hid (FB w20 w15.heap.size p1 p2) := Ftw19.out.below hc20.out Ftw19.out.lt
            have Fn20 : Hid (FB w20 kn n1 (⟨#[49]⟩ : ByteArray)) := Fn19.out.below hc20.out Fn19.out.lt
            have Fwi20 : Hid (FB w20 w18.heap.size (⟨#[48]⟩ : ByteArray) (⟨#[49]⟩ : ByteArray)) := Fwi19.out.below hc20.out Fwi19.out.lt
            clear hb20 hc20 Fr19 Fa19 Fb19 Fag19 Ftw19 Fn19 Fwi19 HB19
            go_wp2_with fail
            refine (is_any (⟨#[49]⟩ : ByteArray) (ten p) w20).mono ?_
            rintro e w21 ⟨rfl, hb21⟩
            have hc21 : Since w20 w21 := hb21
            have HB21 : Since w w21 := HB20.next hc21.out
            have Fr21 : Hid (FB w21 w2.heap.size x1' y1) := Fr20.out.below hc21.out Fr20.out.lt
            have Fa21 : Hid (FB w21 w5.heap.size p1 p2) := Fa20.out.below hc21.out Fa20.out.lt
            have Fb21 : Hid (FB w21 w7.heap.size q1 q2) := Fb20.out.below hc21.out Fb20.out.lt
            have Fag21 : Hid (FB w21 w13.heap.size q1 q2) := Fag20.out.below hc21.out Fag20.out.lt
            have Ftw21 : Hid (FB w21 w15.heap.size p1 p2) := Ftw20.out.below hc21.out Ftw20.out.lt
            have Fn21 : Hid (FB w21 kn n1 (⟨#[49]⟩ : ByteArray)) := Fn20.out.below hc21.out Fn20.out.lt
            have Fwi21 : Hid (FB w21 w18.heap.size (⟨#[48]⟩ : ByteArray) (⟨#[49]⟩ : ByteArray)) := Fwi20.out.below hc21.out Fwi20.out.lt
            clear hb21 hc21 Fr20 Fa20 Fb20 Fag20 Ftw20 Fn20 Fwi20 HB20
            rcases Nat.eq_zero_or_pos p with rfl | hpos
            · have hp0 : ((0 : Nat) : Int) = 0 := rfl
              have hA22 : Since w21 (w21.alloc (.cells #[.string (⟨#[49]⟩ : ByteArray), .string (ten 0)] 26)) := (Below.refl _ w21).alloc (Nat.le_refl _) _
              have Fr22 : Hid (FB (w21.alloc (.cells #[.string (⟨#[49]⟩ : ByteArray), .string (ten 0)] 26)) w2.heap.size x1' y1) := Fr21.out.below hA22.out Fr21.out.lt
              have Fa22 : Hid (FB (w21.alloc (.cells #[.string (⟨#[49]⟩ : ByteArray), .string (ten 0)] 26)) w5.heap.size p1 p2) := Fa21.out.below hA22.out Fa21.out.lt
              have Fb22 : Hid (FB (w21.alloc (.cells #[.string (⟨#[49]⟩ : ByteArray), .string (ten 0)] 26)) w7.heap.size q1 q2) := Fb21.out.below hA22.out Fb21.out.lt
              have Fag22 : Hid (FB (w21.alloc (.cells #[.string (⟨#[49]⟩ : ByteArray), .string (ten 0)] 26)) w13.heap.size q1 q2) := Fag21.out.below hA22.out Fag21.out.lt
              have Ftw22 : Hid (FB (w21.alloc (.cells #[.string (⟨#[49]⟩ : ByteArray), .string (ten 0)] 26)) w15.heap.size p1 p2) := Ftw21.out.below hA22.out Ftw21.out.lt
              have Fn22 : Hid (FB (w21.alloc (.cells #[.string (⟨#[49]⟩ : ByteArray), .string (ten 0)] 26)) kn n1 (⟨#[49]⟩ : ByteArray)) := Fn21.out.below hA22.out Fn21.out.lt
              have Fwi22 : Hid (FB (w21.alloc (.cells #[.string (⟨#[49]⟩ : ByteArray), .string (ten 0)] 26)) w18.heap.size (⟨#[48]⟩ : ByteArray) (⟨#[49]⟩ : ByteArray)) := Fwi21.out.below hA22.out Fwi21.out.lt
              have HB22 : Since w (w21.alloc (.cells #[.string (⟨#[49]⟩ : ByteArray), .string (ten 0)] 26)) := HB21.next hA22.out
              have Fwt22 : Hid (FB (w21.alloc (.cells #[.string (⟨#[49]⟩ : ByteArray), .string (ten 0)] 26)) w21.heap.size (⟨#[49]⟩ : ByteArray) (ten 0)) := FB.new _ _ _
              have Krwt : Hid (w2.heap.size ≠ w21.heap.size) := by have := Fr21.out.lt; show _ ≠ _; omega
              have Kawt : Hid (w5.heap.size ≠ w21.heap.size) := by have := Fa21.out.lt; show _ ≠ _; omega
              have Kbwt : Hid (w7.heap.size ≠ w21.heap.size) := by have := Fb21.out.lt; show _ ≠ _; omega
              have Kagwt : Hid (w13.heap.size ≠ w21.heap.size) := by have := Fag21.out.lt; show _ ≠ _; omega
              have Ktwwt : Hid (w15.heap.size ≠ w21.heap.size) := by have := Ftw21.out.lt; show _ ≠ _; omega
              have Knwt : Hid (kn ≠ w21.heap.size) := by have := Fn21.out.lt; show _ ≠ _; omega
              have Kwiwt : Hid (w18.heap.size ≠ w21.heap.size) := by have := Fwi21.out.lt; show _ ≠ _; omega
              have Kwwt : Hid (w.heap.size ≤ w21.heap.size) := HB21.out.size
              clear hA22 Fr21 Fa21 Fb21 Fag21 Ftw21 Fn21 Fwi21 HB21
              go_wp2_with fail
              generalize (w21.alloc (.cells #[.string (⟨#[49]⟩ : ByteArray), .string (ten 0)] 26)) = w22 at Fr22 Fa22 Fb22 Fag22 Ftw22 Fn22 Fwi22 Fwt22 HB22 ⊢
              refine (is_any (⟨#[49]⟩ : ByteArray) (⟨#[49]⟩ : ByteArray) w22).mono ?_
              rintro e w23 ⟨rfl, hb23⟩
              have hc23 : Since w22 w23 := hb23
              have HB23 : Since w w23 := HB22.next hc23.out
              have Fr23 : Hid (FB w23 w2.heap.size x1' y1) := Fr22.out.below hc23.out Fr22.out.lt
              have Fa23 : Hid (FB w23 w5.heap.size p1 p2) := Fa22.out.below hc23.out Fa22.out.lt
              have Fb23 : Hid (FB w23 w7.heap.size q1 q2) := Fb22.out.below hc23.out Fb22.out.lt
              have Fag23 : Hid (FB w23 w13.heap.size q1 q2) := Fag22.out.below hc23.out Fag22.out.lt
              have Ftw23 : Hid (FB w23 w15.heap.size p1 p2) := Ftw22.out.below hc23.out Ftw22.out.lt
              have Fn23 : Hid (FB w23 kn n1 (⟨#[49]⟩ : ByteArray)) := Fn22.out.below hc23.out Fn22.out.lt
              have Fwi23 : Hid (FB w23 w18.heap.size (⟨#[48]⟩ : ByteArray) (⟨#[49]⟩ : ByteArray)) := Fwi22.out.below hc23.out Fwi22.out.lt
              have Fwt23 : Hid (FB w23 w21.heap.size (⟨#[49]⟩ : ByteArray) (ten 0)) := Fwt22.out.below hc23.out Fwt22.out.lt
              clear hb23 hc23 Fr22 Fa22 Fb22 Fag22 Ftw22 Fn22 Fwi22 Fwt22 HB22
              have Fr24 : Hid (FB ((w23.setCell ⟨w21.heap.size, 0, none⟩ (.string (⟨#[49]⟩ : ByteArray))).setCell ⟨w21.heap.size, 1, none⟩ (.string (⟨#[49]⟩ : ByteArray))) w2.heap.size x1' y1) := Fr23.out.other Krwt.out _ _
              have Fa24 : Hid (FB ((w23.setCell ⟨w21.heap.size, 0, none⟩ (.string (⟨#[49]⟩ : ByteArray))).setCell ⟨w21.heap.size, 1, none⟩ (.string (⟨#[49]⟩ : ByteArray))) w5.heap.size p1 p2) := Fa23.out.other Kawt.out _ _
              have Fb24 : Hid (FB ((w23.setCell ⟨w21.heap.size, 0, none⟩ (.string (⟨#[49]⟩ : ByteArray))).setCell ⟨w21.heap.size, 1, none⟩ (.string (⟨#[49]⟩ : ByteArray))) w7.heap.size q1 q2) := Fb23.out.other Kbwt.out _ _
              have Fag24 : Hid (FB ((w23.setCell ⟨w21.heap.size, 0, none⟩ (.string (⟨#[49]⟩ : ByteArray))).setCell ⟨w21.heap.size, 1, none⟩ (.string (⟨#[49]⟩ : ByteArray))) w13.heap.size q1 q2) := Fag23.out.other Kagwt.out _ _
              have Ftw24 : Hid (FB ((w23.setCell ⟨w21.heap.size, 0, none⟩ (.string (⟨#[49]⟩ : ByteArray))).setCell ⟨w21.heap.size, 1, none⟩ (.string (⟨#[49]⟩ : ByteArray))) w15.heap.size p1 p2) := Ftw23.out.other Ktwwt.out _ _
              have Fn24 : Hid (FB ((w23.setCell ⟨w21.heap.size, 0, none⟩ (.string (⟨#[49]⟩ : ByteArray))).setCell ⟨w21.heap.size, 1, none⟩ (.string (⟨#[49]⟩ : ByteArray))) kn n1 (⟨#[49]⟩ : ByteArray)) := Fn23.out.other Knwt.out _ _
              have Fwi24 : Hid (FB ((w23.setCell ⟨w21.heap.size, 0, none⟩ (.string (⟨#[49]⟩ : ByteArray))).setCell ⟨w21.heap.size, 1, none⟩ (.string (⟨#[49]⟩ : ByteArray))) w18.heap.size (⟨#[48]⟩ : ByteArray) (⟨#[49]⟩ : ByteArray)) := Fwi23.out.other Kwiwt.out _ _
              have Fwt24 : Hid (FB ((w23.setCell ⟨w21.heap.size, 0, none⟩ (.string (⟨#[49]⟩ : ByteArray))).setCell ⟨w21.heap.size, 1, none⟩ (.string (⟨#[49]⟩ : ByteArray))) w21.heap.size (⟨#[49]⟩ : ByteArray) (⟨#[49]⟩ : ByteArray)) := Fwt23.out.put _ _
              have HB24 : Since w ((w23.setCell ⟨w21.heap.size, 0, none⟩ (.string (⟨#[49]⟩ : ByteArray))).setCell ⟨w21.heap.size, 1, none⟩ (.string (⟨#[49]⟩ : ByteArray))) := HB23.put Kwwt.out _ _
              have f0 := Fwt23.out.f0; have f1 := Fwt23.out.f1; have q0 := Fwt23.out.c0; have q1 := Fwt23.out.c1
              go_wp2_with fail
              clear f0 f1 q0 q1 Fr23 Fa23 Fb23 Fag23 Ftw23 Fn23 Fwi23 Fwt23 HB23
              generalize ((w23.setCell ⟨w21.heap.size, 0, none⟩ (.string (⟨#[49]⟩ : ByteArray))).setCell ⟨w21.heap.size, 1, none⟩ (.string (⟨#[49]⟩ : ByteArray))) = w24 at Fr24 Fa24 Fb24 Fag24 Ftw24 Fn24 Fwi24 Fwt24 HB24 ⊢
              refine (is_any (⟨#[48]⟩ : ByteArray) (⟨#[49]⟩ : ByteArray) w24).mono ?_
              rintro e w25 ⟨rfl, hb25⟩
              have hc25 : Since w24 w25 := hb25
              have HB25 : Since w w25 := HB24.next hc25.out
              have Fr25 : Hid (FB w25 w2.heap.size x1' y1) := Fr24.out.below hc25.out Fr24.out.lt
              have Fa25 : Hid (FB w25 w5.heap.size p1 p2) := Fa24.out.below hc25.out Fa24.out.lt
              have Fb25 : Hid (FB w25 w7.heap.size q1 q2) := Fb24.out.below hc25.out Fb24.out.lt
              have Fag25 : Hid (FB w25 w13.heap.size q1 q2) := Fag24.out.below hc25.out Fag24.out.lt
              have Ftw25 : Hid (FB w25 w15.heap.size p1 p2) := Ftw24.out.below hc25.out Ftw24.out.lt
              have Fn25 : Hid (FB w25 kn n1 (⟨#[49]⟩ : ByteArray)) := Fn24.out.below hc25.out Fn24.out.lt
              have Fwi25 : Hid (FB w25 w18.heap.size (⟨#[48]⟩ : ByteArray) (⟨#[49]⟩ : ByteArray)) := Fwi24.out.below hc25.out Fwi24.out.lt
              have Fwt25 : Hid (FB w25 w21.heap.size (⟨#[49]⟩ : ByteArray) (⟨#[49]⟩ : ByteArray)) := Fwt24.out.below hc25.out Fwt24.out.lt
              clear hb25 hc25 Fr24 Fa24 Fb24 Fag24 Ftw24 Fn24 Fwi24 Fwt24 HB24
              have Fr26 : Hid (FB ((w25.setCell ⟨w21.heap.size, 0, none⟩ (.string (⟨#[48]⟩ : ByteArray))).setCell ⟨w21.heap.size, 1, none⟩ (.string (⟨#[49]⟩ : ByteArray))) w2.heap.size x1' y1) := Fr25.out.other Krwt.out _ _
              have Fa26 : Hid (FB ((w25.setCell ⟨w21.heap.size, 0, none⟩ (.string (⟨#[48]⟩ : ByteArray))).setCell ⟨w21.heap.size, 1, none⟩ (.string (⟨#[49]⟩ : ByteArray))) w5.heap.size p1 p2) := Fa25.out.other Kawt.out _ _
              have Fb26 : Hid (FB ((w25.setCell ⟨w21.heap.size, 0, none⟩ (.string (⟨#[48]⟩ : ByteArray))).setCell ⟨w21.heap.size, 1, none⟩ (.string (⟨#[49]⟩ : ByteArray))) w7.heap.size q1 q2) := Fb25.out.other Kbwt.out _ _
              have Fag26 : Hid (FB ((w25.setCell ⟨w21.heap.size, 0, none⟩ (.string (⟨#[48]⟩ : ByteArray))).setCell ⟨w21.heap.size, 1, none⟩ (.string (⟨#[49]⟩ : ByteArray))) w13.heap.size q1 q2) := Fag25.out.other Kagwt.out _ _
              have Ftw26 : Hid (FB ((w25.setCell ⟨w21.heap.size, 0, none⟩ (.string (⟨#[48]⟩ : ByteArray))).setCell ⟨w21.heap.size, 1, none⟩ (.string (⟨#[49]⟩ : ByteArray))) w15.heap.size p1 p2) := Ftw25.out.other Ktwwt.out _ _
              have Fn26 : Hid (FB ((w25.setCell ⟨w21.heap.size, 0, none⟩ (.string (⟨#[48]⟩ : ByteArray))).setCell ⟨w21.heap.size, 1, none⟩ (.string (⟨#[49]⟩ : ByteArray))) kn n1 (⟨#[49]⟩ : ByteArray)) := Fn25.out.other Knwt.out _ _
              have Fwi26 : Hid (FB ((w25.setCell ⟨w21.heap.size, 0, none⟩ (.string (⟨#[48]⟩ : ByteArray))).setCell ⟨w21.heap.size, 1, none⟩ (.string (⟨#[49]⟩ : ByteArray))) w18.heap.size (⟨#[48]⟩ : ByteArray) (⟨#[49]⟩ : ByteArray)) := Fwi25.out.other Kwiwt.out _ _
              have Fwt26 : Hid (FB ((w25.setCell ⟨w21.heap.size, 0, none⟩ (.string (⟨#[48]⟩ : ByteArray))).setCell ⟨w21.heap.size, 1, none⟩ (.string (⟨#[49]⟩ : ByteArray))) w21.heap.size (⟨#[48]⟩ : ByteArray) (⟨#[49]⟩ : ByteArray)) := Fwt25.out.put _ _
              have HB26 : Since w ((w25.setCell ⟨w21.heap.size, 0, none⟩ (.string (⟨#[48]⟩ : ByteArray))).setCell ⟨w21.heap.size, 1, none⟩ (.string (⟨#[49]⟩ : ByteArray))) := HB25.put Kwwt.out _ _
              have f0 := Fwt25.out.f0; have f1 := Fwt25.out.f1; have q0 := Fwt25.out.c0; have q1 := Fwt25.out.c1
              have r0r := Fr26.out.c0; have r1r := Fr26.out.c1
              have r0a := Fa26.out.c0; have r1a := Fa26.out.c1
              have r0b := Fb26.out.c0; have r1b := Fb26.out.c1
              have r0ag := Fag26.out.c0; have r1ag := Fag26.out.c1
              have r0tw := Ftw26.out.c0; have r1tw := Ftw26.out.c1
              have r0n := Fn26.out.c0; have r1n := Fn26.out.c1
              have r0wi := Fwi26.out.c0; have r1wi := Fwi26.out.c1
              go_wp2_with fail
              clear r0r r1r r0a r1a r0b r1b r0ag r1ag r0tw r1tw r0n r1n r0wi r1wi
              clear f0 f1 q0 q1 Fr25 Fa25 Fb25 Fag25 Ftw25 Fn25 Fwi25 Fwt25 HB25
              generalize ((w25.setCell ⟨w21.heap.size, 0, none⟩ (.string (⟨#[48]⟩ : ByteArray))).setCell ⟨w21.heap.size, 1, none⟩ (.string (⟨#[49]⟩ : ByteArray))) = w26 at Fr26 Fa26 Fb26 Fag26 Ftw26 Fn26 Fwi26 Fwt26 HB26 ⊢
              refine (fcmp_any q1 q2 x1' y1 (0) w26 (HB26.tab HT) E7).mono ?_
              rintro e w27 ⟨rfl, hb27⟩
              have hc27 : Since w26 w27 := hb27
              have HB27 : Since w w27 := HB26.next hc27.out
              have Fr27 : Hid (FB w27 w2.heap.size x1' y1) := Fr26.out.below hc27.out Fr26.out.lt
              have Fa27 : Hid (FB w27 w5.heap.size p1 p2) := Fa26.out.below hc27.out Fa26.out.lt
              have Fb27 : Hid (FB w27 w7.heap.size q1 q2) := Fb26.out.below hc27.out Fb26.out.lt
              have Fag27 : Hid (FB w27 w13.heap.size q1 q2) := Fag26.out.below hc27.out Fag26.out.lt
              have Ftw27 : Hid (FB w27 w15.heap.size p1 p2) := Ftw26.out.below hc27.out Ftw26.out.lt
              have Fn27 : Hid (FB w27 kn n1 (⟨#[49]⟩ : ByteArray)) := Fn26.out.below hc27.out Fn26.out.lt
              have Fwi27 : Hid (FB w27 w18.heap.size (⟨#[48]⟩ : ByteArray) (⟨#[49]⟩ : ByteArray)) := Fwi26.out.below hc27.out Fwi26.out.lt
              have Fwt27 : Hid (FB w27 w21.heap.size (⟨#[48]⟩ : ByteArray) (⟨#[49]⟩ : ByteArray)) := Fwt26.out.below hc27.out Fwt26.out.lt
              clear hb27 hc27 Fr26 Fa26 Fb26 Fag26 Ftw26 Fn26 Fwi26 Fwt26 HB26
              go_wp2
              go_ret
              exact ⟨rfl, HB27.out⟩
            · have hp0 : (p : Int) ≠ 0 := by omega
              have hA22 : Since w21 (w21.alloc (.cells #[.string (⟨#[49]⟩ : ByteArray), .string (ten p)] 26)) := (Below.refl _ w21).alloc (Nat.le_refl _) _
              have Fr22 : Hid (FB (w21.alloc (.cells #[.string (⟨#[49]⟩ : ByteArray), .string (ten p)] 26)) w2.heap.size x1' y1) := Fr21.out.below hA22.out Fr21.out.lt
              have Fa22 : Hid (FB (w21.alloc (.cells #[.string (⟨#[49]⟩ : ByteArray), .string (ten p)] 26)) w5.heap.size p1 p2) := Fa21.out.below hA22.out Fa21.out.lt
              have Fb22 : Hid (FB (w21.alloc (.cells #[.string (⟨#[49]⟩ : ByteArray), .string (ten p)] 26)) w7.heap.size q1 q2) := Fb21.out.below hA22.out Fb21.out.lt
              have Fag22 : Hid (FB (w21.alloc (.cells #[.string (⟨#[49]⟩ : ByteArray), .string (ten p)] 26)) w13.heap.size q1 q2) := Fag21.out.below hA22.out Fag21.out.lt
              have Ftw22 : Hid (FB (w21.alloc (.cells #[.string (⟨#[49]⟩ : ByteArray), .string (ten p)] 26)) w15.heap.size p1 p2) := Ftw21.out.below hA22.out Ftw21.out.lt
              have Fn22 : Hid (FB (w21.alloc (.cells #[.string (⟨#[49]⟩ : ByteArray), .string (ten p)] 26)) kn n1 (⟨#[49]⟩ : ByteArray)) := Fn21.out.below hA22.out Fn21.out.lt
              have Fwi22 : Hid (FB (w21.alloc (.cells #[.string (⟨#[49]⟩ : ByteArray), .string (ten p)] 26)) w18.heap.size (⟨#[48]⟩ : ByteArray) (⟨#[49]⟩ : ByteArray)) := Fwi21.out.below hA22.out Fwi21.out.lt
              have HB22 : Since w (w21.alloc (.cells #[.string (⟨#[49]⟩ : ByteArray), .string (ten p)] 26)) := HB21.next hA22.out
              have Fwt22 : Hid (FB (w21.alloc (.cells #[.string (⟨#[49]⟩ : ByteArray), .string (ten p)] 26)) w21.heap.size (⟨#[49]⟩ : ByteArray) (ten p)) := FB.new _ _ _
              have Krwt : Hid (w2.heap.size ≠ w21.heap.size) := by have := Fr21.out.lt; show _ ≠ _; omega
              have Kawt : Hid (w5.heap.size ≠ w21.heap.size) := by have := Fa21.out.lt; show _ ≠ _; omega
              have Kbwt : Hid (w7.heap.size ≠ w21.heap.size) := by have := Fb21.out.lt; show _ ≠ _; omega
              have Kagwt : Hid (w13.heap.size ≠ w21.heap.size) := by have := Fag21.out.lt; show _ ≠ _; omega
              have Ktwwt : Hid (w15.heap.size ≠ w21.heap.size) := by have := Ftw21.out.lt; show _ ≠ _; omega
              have Knwt : Hid (kn ≠ w21.heap.size) := by have := Fn21.out.lt; show _ ≠ _; omega
              have Kwiwt : Hid (w18.heap.size ≠ w21.heap.size) := by have := Fwi21.out.lt; show _ ≠ _; omega
              have Kwwt : Hid (w.heap.size ≤ w21.heap.size) := HB21.out.size
              clear hA22 Fr21 Fa21 Fb21 Fag21 Ftw21 Fn21 Fwi21 HB21
              go_wp2_with fail
              generalize (w21.alloc (.cells #[.string (⟨#[49]⟩ : ByteArray), .string (ten p)] 26)) = w22 at Fr22 Fa22 Fb22 Fag22 Ftw22 Fn22 Fwi22 Fwt22 HB22 ⊢
              refine (is_any (⟨#[48]⟩ : ByteArray) (⟨#[49]⟩ : ByteArray) w22).mono ?_
              rintro e w23 ⟨rfl, hb23⟩
              have hc23 : Since w22 w23 := hb23
              have HB23 : Since w w23 := HB22.next hc23.out
              have Fr23 : Hid (FB w23 w2.heap.size x1' y1) := Fr22.out.below hc23.out Fr22.out.lt
              have Fa23 : Hid (FB w23 w5.heap.size p1 p2) := Fa22.out.below hc23.out Fa22.out.lt
              have Fb23 : Hid (FB w23 w7.heap.size q1 q2) := Fb22.out.below hc23.out Fb22.out.lt
              have Fag23 : Hid (FB w23 w13.heap.size q1 q2) := Fag22.out.below hc23.out Fag22.out.lt
              have Ftw23 : Hid (FB w23 w15.heap.size p1 p2) := Ftw22.out.below hc23.out Ftw22.out.lt
              have Fn23 : Hid (FB w23 kn n1 (⟨#[49]⟩ : ByteArray)) := Fn22.out.below hc23.out Fn22.out.lt
              have Fwi23 : Hid (FB w23 w18.heap.size (⟨#[48]⟩ : ByteArray) (⟨#[49]⟩ : ByteArray)) := Fwi22.out.below hc23.out Fwi22.out.lt
              have Fwt23 : Hid (FB w23 w21.heap.size (⟨#[49]⟩ : ByteArray) (ten p)) := Fwt22.out.below hc23.out Fwt22.out.lt
              clear hb23 hc23 Fr22 Fa22 Fb22 Fag22 Ftw22 Fn22 Fwi22 Fwt22 HB22
              have Fr24 : Hid (FB ((w23.setCell ⟨w21.heap.size, 0, none⟩ (.string (⟨#[48]⟩ : ByteArray))).setCell ⟨w21.heap.size, 1, none⟩ (.string (⟨#[49]⟩ : ByteArray))) w2.heap.size x1' y1) := Fr23.out.other Krwt.out _ _
              have Fa24 : Hid (FB ((w23.setCell ⟨w21.heap.size, 0, none⟩ (.string (⟨#[48]⟩ : ByteArray))).setCell ⟨w21.heap.size, 1, none⟩ (.string (⟨#[49]⟩ : ByteArray))) w5.heap.size p1 p2) := Fa23.out.other Kawt.out _ _
              have Fb24 : Hid (FB ((w23.setCell ⟨w21.heap.size, 0, none⟩ (.string (⟨#[48]⟩ : ByteArray))).setCell ⟨w21.heap.size, 1, none⟩ (.string (⟨#[49]⟩ : ByteArray))) w7.heap.size q1 q2) := Fb23.out.other Kbwt.out _ _
              have Fag24 : Hid (FB ((w23.setCell ⟨w21.heap.size, 0, none⟩ (.string (⟨#[48]⟩ : ByteArray))).setCell ⟨w21.heap.size, 1, none⟩ (.string (⟨#[49]⟩ : ByteArray))) w13.heap.size q1 q2) := Fag23.out.other Kagwt.out _ _
              have Ftw24 : Hid (FB ((w23.setCell ⟨w21.heap.size, 0, none⟩ (.string (⟨#[48]⟩ : ByteArray))).setCell ⟨w21.heap.size, 1, none⟩ (.string (⟨#[49]⟩ : ByteArray))) w15.heap.size p1 p2) := Ftw23.out.other Ktwwt.out _ _
              have Fn24 : Hid (FB ((w23.setCell ⟨w21.heap.size, 0, none⟩ (.string (⟨#[48]⟩ : ByteArray))).setCell ⟨w21.heap.size, 1, none⟩ (.string (⟨#[49]⟩ : ByteArray))) kn n1 (⟨#[49]⟩ : ByteArray)) := Fn23.out.other Knwt.out _ _
              have Fwi24 : Hid (FB ((w23.setCell ⟨w21.heap.size, 0, none⟩ (.string (⟨#[48]⟩ : ByteArray))).setCell ⟨w21.heap.size, 1, none⟩ (.string (⟨#[49]⟩ : ByteArray))) w18.heap.size (⟨#[48]⟩ : ByteArray) (⟨#[49]⟩ : ByteArray)) := Fwi23.out.other Kwiwt.out _ _
              have Fwt24 : Hid (FB ((w23.setCell ⟨w21.heap.size, 0, none⟩ (.string (⟨#[48]⟩ : ByteArray))).setCell ⟨w21.heap.size, 1, none⟩ (.string (⟨#[49]⟩ : ByteArray))) w21.heap.size (⟨#[48]⟩ : ByteArray) (⟨#[49]⟩ : ByteArray)) := Fwt23.out.put _ _
              have HB24 : Since w ((w23.setCell ⟨w21.heap.size, 0, none⟩ (.string (⟨#[48]⟩ : ByteArray))).setCell ⟨w21.heap.size, 1, none⟩ (.string (⟨#[49]⟩ : ByteArray))) := HB23.put Kwwt.out _ _
              have f0 := Fwt23.out.f0; have f1 := Fwt23.out.f1; have q0 := Fwt23.out.c0; have q1 := Fwt23.out.c1
              have r0r := Fr24.out.c0; have r1r := Fr24.out.c1
              have r0a := Fa24.out.c0; have r1a := Fa24.out.c1
              have r0b := Fb24.out.c0; have r1b := Fb24.out.c1
              have r0ag := Fag24.out.c0; have r1ag := Fag24.out.c1
              have r0tw := Ftw24.out.c0; have r1tw := Ftw24.out.c1
              have r0n := Fn24.out.c0; have r1n := Fn24.out.c1
              have r0wi := Fwi24.out.c0; have r1wi := Fwi24.out.c1
              go_wp2_with fail
              clear r0r r1r r0a r1a r0b r1b r0ag r1ag r0tw r1tw r0n r1n r0wi r1wi
              clear f0 f1 q0 q1 Fr23 Fa23 Fb23 Fag23 Ftw23 Fn23 Fwi23 Fwt23 HB23
              generalize ((w23.setCell ⟨w21.heap.size, 0, none⟩ (.string (⟨#[48]⟩ : ByteArray))).setCell ⟨w21.heap.size, 1, none⟩ (.string (⟨#[49]⟩ : ByteArray))) = w24 at Fr24 Fa24 Fb24 Fag24 Ftw24 Fn24 Fwi24 Fwt24 HB24 ⊢
              refine (fcmp_any q1 q2 x1' y1 (0) w24 (HB24.tab HT) E7).mono ?_
              rintro e w25 ⟨rfl, hb25⟩
              have hc25 : Since w24 w25 := hb25
              have HB25 : Since w w25 := HB24.next hc25.out
              have Fr25 : Hid (FB w25 w2.heap.size x1' y1) := Fr24.out.below hc25.out Fr24.out.lt
              have Fa25 : Hid (FB w25 w5.heap.size p1 p2) := Fa24.out.below hc25.out Fa24.out.lt
              have Fb25 : Hid (FB w25 w7.heap.size q1 q2) := Fb24.out.below hc25.out Fb24.out.lt
              have Fag25 : Hid (FB w25 w13.heap.size q1 q2) := Fag24.out.below hc25.out Fag24.out.lt
              have Ftw25 : Hid (FB w25 w15.heap.size p1 p2) := Ftw24.out.below hc25.out Ftw24.out.lt
              have Fn25 : Hid (FB w25 kn n1 (⟨#[49]⟩ : ByteArray)) := Fn24.out.below hc25.out Fn24.out.lt
              have Fwi25 : Hid (FB w25 w18.heap.size (⟨#[48]⟩ : ByteArray) (⟨#[49]⟩ : ByteArray)) := Fwi24.out.below hc25.out Fwi24.out.lt
              have Fwt25 : Hid (FB w25 w21.heap.size (⟨#[48]⟩ : ByteArray) (⟨#[49]⟩ : ByteArray)) := Fwt24.out.below hc25.out Fwt24.out.lt
              clear hb25 hc25 Fr24 Fa24 Fb24 Fag24 Ftw24 Fn24 Fwi24 Fwt24 HB24
              go_wp2
              go_ret
              exact ⟨rfl, HB25.out⟩
          · clear EC
            have hA19 : Since w18 (w18.alloc (.cells #[.string (⟨#[49]⟩ : ByteArray), .string (ten p)] 26)) := (Below.refl _ w18).alloc (Nat.le_refl _) _
            have Fr19 : Hid (FB (w18.alloc (.cells #[.string (⟨#[49]⟩ : ByteArray), .string (ten p)] 26)) w2.heap.size x1' y1) := Fr18.out.below hA19.out Fr18.out.lt
            have Fa19 : Hid (FB (w18.alloc (.cells #[.string (⟨#[49]⟩ : ByteArray), .string (ten p)] 26)) w5.heap.size p1 p2) := Fa18.out.below hA19.out Fa18.out.lt
            have Fb19 : Hid (FB (w18.alloc (.cells #[.string (⟨#[49]⟩ : ByteArray), .string (ten p)] 26)) w7.heap.size q1 q2) := Fb18.out.below hA19.out Fb18.out.lt
            have Fag19 : Hid (FB (w18.alloc (.cells #[.string (⟨#[49]⟩ : ByteArray), .string (ten p)] 26)) w13.heap.size q1 q2) := Fag18.out.below hA19.out Fag18.out.lt
            have Ftw19 : Hid (FB (w18.alloc (.cells #[.string (⟨#[49]⟩ : ByteArray), .string (ten p)] 26)) w15.heap.size p1 p2) := Ftw18.out.below hA19.out Ftw18.out.lt
            have Fn19 : Hid (FB (w18.alloc (.cells #[.string (⟨#[49]⟩ : ByteArray), .string (ten p)] 26)) kn n1 (⟨#[49]⟩ : ByteArray)) := Fn18.out.below hA19.out Fn18.out.lt
            have HB19 : Since w (w18.alloc (.cells #[.string (⟨#[49]⟩ : ByteArray), .string (ten p)] 26)) := HB18.next hA19.out
            have Fwi19 : Hid (FB (w18.alloc (.cells #[.string (⟨#[49]⟩ : ByteArray), .string (ten p)] 26)) w18.heap.size (⟨#[49]⟩ : ByteArray) (ten p)) := FB.new _ _ _
            clear hA19 Fr18 Fa18 Fb18 Fag18 Ftw18 Fn18 HB18
            have r0r := Fr19.out.c0; have r1r := Fr19.out.c1
            have r0a := Fa19.out.c0; have r1a := Fa19.out.c1
            go_wp2_with fail
            clear r0r r1r r0a r1a
            generalize (w18.alloc (.cells #[.string (⟨#[49]⟩ : ByteArray), .string (ten p)] 26)) = w19 at Fr19 Fa19 Fb19 Fag19 Ftw19 Fn19 Fwi19 HB19 ⊢
            refine (fcmp_any p1 p2 x1' y1 (-1) w19 (HB19.tab HT) E6).mono ?_
            rintro e w20 ⟨rfl, hb20⟩
            have hc20 : Since w19 w20 := hb20
            have HB20 : Since w w20 := HB19.next hc20.out
            have Fr20 : Hid (FB w20 w2.heap.size x1' y1) := Fr19.out.below hc20.out Fr19.out.lt
            have Fa20 : Hid (FB w20 w5.heap.size p1 p2) := Fa19.out.below hc20.out Fa19.out.lt
            have Fb20 : Hid (FB w20 w7.heap.size q1 q2) := Fb19.out.below hc20.out Fb19.out.lt
            have Fag20 : Hid (FB w20 w13.heap.size q1 q2) := Fag19.out.below hc20.out Fag19.out.lt
            have Ftw20 : Hid (FB w20 w15.heap.size p1 p2) := Ftw19.out.below hc20.out Ftw19.out.lt
            have Fn20 : Hid (FB w20 kn n1 (⟨#[49]⟩ : ByteArray)) := Fn19.out.below hc20.out Fn19.out.lt
            have Fwi20 : Hid (FB w20 w18.heap.size (⟨#[49]⟩ : ByteArray) (ten p)) := Fwi19.out.below hc20.out Fwi19.out.lt
            clear hb20 hc20 Fr19 Fa19 Fb19 Fag19 Ftw19 Fn19 Fwi19 HB19
            go_wp2_with fail
            refine (is_any (⟨#[49]⟩ : ByteArray) (ten p) w20).mono ?_
            rintro e w21 ⟨rfl, hb21⟩
            have hc21 : Since w20 w21 := hb21
            have HB21 : Since w w21 := HB20.next hc21.out
            have Fr21 : Hid (FB w21 w2.heap.size x1' y1) := Fr20.out.below hc21.out Fr20.out.lt
            have Fa21 : Hid (FB w21 w5.heap.size p1 p2) := Fa20.out.below hc21.out Fa20.out.lt
            have Fb21 : Hid (FB w21 w7.heap.size q1 q2) := Fb20.out.below hc21.out Fb20.out.lt
            have Fag21 : Hid (FB w21 w13.heap.size q1 q2) := Fag20.out.below hc21.out Fag20.out.lt
            have Ftw21 : Hid (FB w21 w15.heap.size p1 p2) := Ftw20.out.below hc21.out Ftw20.out.lt
            have Fn21 : Hid (FB w21 kn n1 (⟨#[49]⟩ : ByteArray)) := Fn20.out.below hc21.out Fn20.out.lt
            have Fwi21 : Hid (FB w21 w18.heap.size (⟨#[49]⟩ : ByteArray) (ten p)) := Fwi20.out.below hc21.out Fwi20.out.lt
            clear hb21 hc21 Fr20 Fa20 Fb20 Fag20 Ftw20 Fn20 Fwi20 HB20
            rcases Nat.eq_zero_or_pos p with rfl | hpos
            · have hp0 : ((0 : Nat) : Int) = 0 := rfl
              rw [show ten 0 = (⟨#[49]⟩ : ByteArray) from rfl] at Fwi21
              have hA22 : Since w21 (w21.alloc (.cells #[.string (⟨#[49]⟩ : ByteArray), .string (ten 0)] 26)) := (Below.refl _ w21).alloc (Nat.le_refl _) _
              have Fr22 : Hid (FB (w21.alloc (.cells #[.string (⟨#[49]⟩ : ByteArray), .string (ten 0)] 26)) w2.heap.size x1' y1) := Fr21.out.below hA22.out Fr21.out.lt
              have Fa22 : Hid (FB (w21.alloc (.cells #[.string (⟨#[49]⟩ : ByteArray), .string (ten 0)] 26)) w5.heap.size p1 p2) := Fa21.out.below hA22.out Fa21.out.lt
              have Fb22 : Hid (FB (w21.alloc (.cells #[.string (⟨#[49]⟩ : ByteArray), .string (ten 0)] 26)) w7.heap.size q1 q2) := Fb21.out.below hA22.out Fb21.out.lt
              have Fag22 : Hid (FB (w21.alloc (.cells #[.string (⟨#[49]⟩ : ByteArray), .string (ten 0)] 26)) w13.heap.size q1 q2) := Fag21.out.below hA22.out Fag21.out.lt
              have Ftw22 : Hid (FB (w21.alloc (.cells #[.string (⟨#[49]⟩ : ByteArray), .string (ten 0)] 26)) w15.heap.size p1 p2) := Ftw21.out.below hA22.out Ftw21.out.lt
              have Fn22 : Hid (FB (w21.alloc (.cells #[.string (⟨#[49]⟩ : ByteArray), .string (ten 0)] 26)) kn n1 (⟨#[49]⟩ : ByteArray)) := Fn21.out.below hA22.out Fn21.out.lt
              have Fwi22 : Hid (FB (w21.alloc (.cells #[.string (⟨#[49]⟩ : ByteArray), .string (ten 0)] 26)) w18.heap.size (⟨#[49]⟩ : ByteArray) (⟨#[49]⟩ : ByteArray)) := Fwi21.out.below hA22.out Fwi21.out.lt
              have HB22 : Since w (w21.alloc (.cells #[.string (⟨#[49]⟩ : ByteArray), .string (ten 0)] 26)) := HB21.next hA22.out
              have Fwt22 : Hid (FB (w21.alloc (.cells #[.string (⟨#[49]⟩ : ByteArray), .string (ten 0)] 26)) w21.heap.size (⟨#[49]⟩ : ByteArray) (ten 0)) := FB.new _ _ _
              have Krwt : Hid (w2.heap.size ≠ w21.heap.size) := by have := Fr21.out.lt; show _ ≠ _; omega
              have Kawt : Hid (w5.heap.size ≠ w21.heap.size) := by have := Fa21.out.lt; show _ ≠ _; omega
              have Kbwt : Hid (w7.heap.size ≠ w21.heap.size) := by have := Fb21.out.lt; show _ ≠ _; omega
              have Kagwt : Hid (w13.heap.size ≠ w21.heap.size) := by have := Fag21.out.lt; show _ ≠ _; omega
              have Ktwwt : Hid (w15.heap.size ≠ w21.heap.size) := by have := Ftw21.out.lt; show _ ≠ _; omega
              have Knwt : Hid (kn ≠ w21.heap.size) := by have := Fn21.out.lt; show _ ≠ _; omega
              have Kwiwt : Hid (w18.heap.size ≠ w21.heap.size) := by have := Fwi21.out.lt; show _ ≠ _; omega
              have Kwwt : Hid (w.heap.size ≤ w21.heap.size) := HB21.out.size
              clear hA22 Fr21 Fa21 Fb21 Fag21 Ftw21 Fn21 Fwi21 HB21
              go_wp2_with fail
              generalize (w21.alloc (.cells #[.string (⟨#[49]⟩ : ByteArray), .string (ten 0)] 26)) = w22 at Fr22 Fa22 Fb22 Fag22 Ftw22 Fn22 Fwi22 Fwt22 HB22 ⊢
              refine (is_any (⟨#[49]⟩ : ByteArray) (⟨#[49]⟩ : ByteArray) w22).mono ?_
              rintro e w23 ⟨rfl, hb23⟩
              have hc23 : Since w22 w23 := hb23
              have HB23 : Since w w23 := HB22.next hc23.out
              have Fr23 : Hid (FB w23 w2.heap.size x1' y1) := Fr22.out.below hc23.out Fr22.out.lt
              have Fa23 : Hid (FB w23 w5.heap.size p1 p2) := Fa22.out.below hc23.out Fa22.out.lt
              have Fb23 : Hid (FB w23 w7.heap.size q1 q2) := Fb22.out.below hc23.out Fb22.out.lt
              have Fag23 : Hid (FB w23 w13.heap.size q1 q2) := Fag22.out.below hc23.out Fag22.out.lt
              have Ftw23 : Hid (FB w23 w15.heap.size p1 p2) := Ftw22.out.below hc23.out Ftw22.out.lt
              have Fn23 : Hid (FB w23 kn n1 (⟨#[49]⟩ : ByteArray)) := Fn22.out.below hc23.out Fn22.out.lt
              have Fwi23 : Hid (FB w23 w18.heap.size (⟨#[49]⟩ : ByteArray) (⟨#[49]⟩ : ByteArray)) := Fwi22.out.below hc23.out Fwi22.out.lt
              have Fwt23 : Hid (FB w23 w21.heap.size (⟨#[49]⟩ : ByteArray) (ten 0)) := Fwt22.out.below hc23.out Fwt22.out.lt
              clear hb23 hc23 Fr22 Fa22 Fb22 Fag22 Ftw22 Fn22 Fwi22 Fwt22 HB22
              have Fr24 : Hid (FB ((w23.setCell ⟨w21.heap.size, 0, none⟩ (.string (⟨#[49]⟩ : ByteArray))).setCell ⟨w21.heap.size, 1, none⟩ (.string (⟨#[49]⟩ : ByteArray))) w2.heap.size x1' y1) := Fr23.out.other Krwt.out _ _
              have Fa24 : Hid (FB ((w23.setCell ⟨w21.heap.size, 0, none⟩ (.string (⟨#[49]⟩ : ByteArray))).setCell ⟨w21.heap.size, 1, none⟩ (.string (⟨#[49]⟩ : ByteArray))) w5.heap.size p1 p2) := Fa23.out.other Kawt.out _ _
              have Fb24 : Hid (FB ((w23.setCell ⟨w21.heap.size, 0, none⟩ (.string (⟨#[49]⟩ : ByteArray))).setCell ⟨w21.heap.size, 1, none⟩ (.string (⟨#[49]⟩ : ByteArray))) w7.heap.size q1 q2) := Fb23.out.other Kbwt.out _ _
              have Fag24 : Hid (FB ((w23.setCell ⟨w21.heap.size, 0, none⟩ (.string (⟨#[49]⟩ : ByteArray))).setCell ⟨w21.heap.size, 1, none⟩ (.string (⟨#[49]⟩ : ByteArray))) w13.heap.size q1 q2) := Fag23.out.other Kagwt.out _ _
              have Ftw24 : Hid (FB ((w23.setCell ⟨w21.heap.size, 0, none⟩ (.string (⟨#[49]⟩ : ByteArray))).setCell ⟨w21.heap.size, 1, none⟩ (.string (⟨#[49]⟩ : ByteArray))) w15.heap.size p1 p2) := Ftw23.out.other Ktwwt.out _ _
              have Fn24 : Hid (FB ((w23.setCell ⟨w21.heap.size, 0, none⟩ (.string (⟨#[49]⟩ : ByteArray))).setCell ⟨w21.heap.size, 1, none⟩ (.string (⟨#[49]⟩ : ByteArray))) kn n1 (⟨#[49]⟩ : ByteArray)) := Fn23.out.other Knwt.out _ _
              have Fwi24 : Hid (FB ((w23.setCell ⟨w21.heap.size, 0, none⟩ (.string (⟨#[49]⟩ : ByteArray))).setCell ⟨w21.heap.size, 1, none⟩ (.string (⟨#[49]⟩ : ByteArray))) w18.heap.size (⟨#[49]⟩ : ByteArray) (⟨#[49]⟩ : ByteArray)) := Fwi23.out.other Kwiwt.out _ _
              have Fwt24 : Hid (FB ((w23.setCell ⟨w21.heap.size, 0, none⟩ (.string (⟨#[49]⟩ : ByteArray))).setCell ⟨w21.heap.size, 1, none⟩ (.string (⟨#[49]⟩ : ByteArray))) w21.heap.size (⟨#[49]⟩ : ByteArray) (⟨#[49]⟩ : ByteArray)) := Fwt23.out.put _ _
              have HB24 : Since w ((w23.setCell ⟨w21.heap.size, 0, none⟩ (.string (⟨#[49]⟩ : ByteArray))).setCell ⟨w21.heap.size, 1, none⟩ (.string (⟨#[49]⟩ : ByteArray))) := HB23.put Kwwt.out _ _
              have f0 := Fwt23.out.f0; have f1 := Fwt23.out.f1; have q0 := Fwt23.out.c0; have q1 := Fwt23.out.c1
              have r0r := Fr24.out.c0; have r1r := Fr24.out.c1
              have r0a := Fa24.out.c0; have r1a := Fa24.out.c1
              have r0b := Fb24.out.c0; have r1b := Fb24.out.c1
              have r0ag := Fag24.out.c0; have r1ag := Fag24.out.c1
              have r0tw := Ftw24.out.c0; have r1tw := Ftw24.out.c1
              have r0n := Fn24.out.c0; have r1n := Fn24.out.c1
              have r0wi := Fwi24.out.c0; have r1wi := Fwi24.out.c1
              go_wp2_with fail
              clear r0r r1r r0a r1a r0b r1b r0ag r1ag r0tw r1tw r0n r1n r0wi r1wi
              clear f0 f1 q0 q1 Fr23 Fa23 Fb23 Fag23 Ftw23 Fn23 Fwi23 Fwt23 HB23
              generalize ((w23.setCell ⟨w21.heap.size, 0, none⟩ (.string (⟨#[49]⟩ : ByteArray))).setCell ⟨w21.heap.size, 1, none⟩ (.string (⟨#[49]⟩ : ByteArray))) = w24 at Fr24 Fa24 Fb24 Fag24 Ftw24 Fn24 Fwi24 Fwt24 HB24 ⊢
              refine (fcmp_any q1 q2 x1' y1 (1) w24 (HB24.tab HT) E7).mono ?_
              rintro e w25 ⟨rfl, hb25⟩
              have hc25 : Since w24 w25 := hb25
              have HB25 : Since w w25 := HB24.next hc25.out
              have Fr25 : Hid (FB w25 w2.heap.size x1' y1) := Fr24.out.below hc25.out Fr24.out.lt
              have Fa25 : Hid (FB w25 w5.heap.size p1 p2) := Fa24.out.below hc25.out Fa24.out.lt
              have Fb25 : Hid (FB w25 w7.heap.size q1 q2) := Fb24.out.below hc25.out Fb24.out.lt
              have Fag25 : Hid (FB w25 w13.heap.size q1 q2) := Fag24.out.below hc25.out Fag24.out.lt
              have Ftw25 : Hid (FB w25 w15.heap.size p1 p2) := Ftw24.out.below hc25.out Ftw24.out.lt
              have Fn25 : Hid (FB w25 kn n1 (⟨#[49]⟩ : ByteArray)) := Fn24.out.below hc25.out Fn24.out.lt
              have Fwi25 : Hid (FB w25 w18.heap.size (⟨#[49]⟩ : ByteArray) (⟨#[49]⟩ : ByteArray)) := Fwi24.out.below hc25.out Fwi24.out.lt
              have Fwt25 : Hid (FB w25 w21.heap.size (⟨#[49]⟩ : ByteArray) (⟨#[49]⟩ : ByteArray)) := Fwt24.out.below hc25.out Fwt24.out.lt
              clear hb25 hc25 Fr24 Fa24 Fb24 Fag24 Ftw24 Fn24 Fwi24 Fwt24 HB24
              go_wp2
              go_ret
              exact ⟨rfl, HB25.out⟩
            · have hp0 : (p : Int) ≠ 0 := by omega
              have hA22 : Since w21 (w21.alloc (.cells #[.string (⟨#[49]⟩ : ByteArray), .string (ten p)] 26)) := (Below.refl _ w21).alloc (Nat.le_refl _) _
              have Fr22 : Hid (FB (w21.alloc (.cells #[.string (⟨#[49]⟩ : ByteArray), .string (ten p)] 26)) w2.heap.size x1' y1) := Fr21.out.below hA22.out Fr21.out.lt
              have Fa22 : Hid (FB (w21.alloc (.cells #[.string (⟨#[49]⟩ : ByteArray), .string (ten p)] 26)) w5.heap.size p1 p2) := Fa21.out.below hA22.out Fa21.out.lt
              have Fb22 : Hid (FB (w21.alloc (.cells #[.string (⟨#[49]⟩ : ByteArray), .string (ten p)] 26)) w7.heap.size q1 q2) := Fb21.out.below hA22.out Fb21.out.lt
              have Fag22 : Hid (FB (w21.alloc (.cells #[.string (⟨#[49]⟩ : ByteArray), .string (ten p)] 26)) w13.heap.size q1 q2) := Fag21.out.below hA22.out Fag21.out.lt
              have Ftw22 : Hid (FB (w21.alloc (.cells #[.string (⟨#[49]⟩ : ByteArray), .string (ten p)] 26)) w15.heap.size p1 p2) := Ftw21.out.below hA22.out Ftw21.out.lt
              have Fn22 : Hid (FB (w21.alloc (.cells #[.string (⟨#[49]⟩ : ByteArray), .string (ten p)] 26)) kn n1 (⟨#[49]⟩ : ByteArray)) := Fn21.out.below hA22.out Fn21.out.lt
              have Fwi22 : Hid (FB (w21.alloc (.cells #[.string (⟨#[49]⟩ : ByteArray), .string (ten p)] 26)) w18.heap.size (⟨#[49]⟩ : ByteArray) (ten p)) := Fwi21.out.below hA22.out Fwi21.out.lt
              have HB22 : Since w (w21.alloc (.cells #[.string (⟨#[49]⟩ : ByteArray), .string (ten p)] 26)) := HB21.next hA22.out
              have Fwt22 : Hid (FB (w21.alloc (.cells #[.string (⟨#[49]⟩ : ByteArray), .string (ten p)] 26)) w21.heap.size (⟨#[49]⟩ : ByteArray) (ten p)) := FB.new _ _ _
              have Krwt : Hid (w2.heap.size ≠ w21.heap.size) := by have := Fr21.out.lt; show _ ≠ _; omega
              have Kawt : Hid (w5.heap.size ≠ w21.heap.size) := by have := Fa21.out.lt; show _ ≠ _; omega
              have Kbwt : Hid (w7.heap.size ≠ w21.heap.size) := by have := Fb21.out.lt; show _ ≠ _; omega
              have Kagwt : Hid (w13.heap.size ≠ w21.heap.size) := by have := Fag21.out.lt; show _ ≠ _; omega
              have Ktwwt : Hid (w15.heap.size ≠ w21.heap.size) := by have := Ftw21.out.lt; show _ ≠ _; omega
              have Knwt : Hid (kn ≠ w21.heap.size) := by have := Fn21.out.lt; show _ ≠ _; omega
              have Kwiwt : Hid (w18.heap.size ≠ w21.heap.size) := by have := Fwi21.out.lt; show _ ≠ _; omega
              have Kwwt : Hid (w.heap.size ≤ w21.heap.size) := HB21.out.size
              clear hA22 Fr21 Fa21 Fb21 Fag21 Ftw21 Fn21 Fwi21 HB21
              have r0r := Fr22.out.c0; have r1r := Fr22.out.c1
              have r0a := Fa22.out.c0; have r1a := Fa22.out.c1
              have r0b := Fb22.out.c0; have r1b := Fb22.out.c1
              have r0ag := Fag22.out.c0; have r1ag := Fag22.out.c1
              have r0tw := Ftw22.out.c0; have r1tw := Ftw22.out.c1
              have r0n := Fn22.out.c0; have r1n := Fn22.out.c1
              have r0wi := Fwi22.out.c0; have r1wi := Fwi22.out.c1
              go_wp2_with fail
              clear r0r r1r r0a r1a r0b r1b r0ag r1ag r0tw r1tw r0n r1n r0wi r1wi
              generalize (w21.alloc (.cells #[.string (⟨#[49]⟩ : ByteArray), .string (ten p)] 26)) = w22 at Fr22 Fa22 Fb22 Fag22 Ftw22 Fn22 Fwi22 Fwt22 HB22 ⊢
              refine (fcmp_any q1 q2 x1' y1 (1) w22 (HB22.tab HT) E7).mono ?_
              rintro e w23 ⟨rfl, hb23⟩
              have hc23 : Since w22 w23 := hb23
              have HB23 : Since w w23 := HB22.next hc23.out
              have Fr23 : Hid (FB w23 w2.heap.size x1' y1) := Fr22.out.below hc23.out Fr22.out.lt
              have Fa23 : Hid (FB w23 w5.heap.size p1 p2) := Fa22.out.below hc23.out Fa22.out.lt
              have Fb23 : Hid (FB w23 w7.heap.size q1 q2) := Fb22.out.below hc23.out Fb22.out.lt
              have Fag23 : Hid (FB w23 w13.heap.size q1 q2) := Fag22.out.below hc23.out Fag22.out.lt
              have Ftw23 : Hid (FB w23 w15.heap.size p1 p2) := Ftw22.out.below hc23.out Ftw22.out.lt
              have Fn23 : Hid (FB w23 kn n1 (⟨#[49]⟩ : ByteArray)) := Fn22.out.below hc23.out Fn22.out.lt
              have Fwi23 : Hid (FB w23 w18.heap.size (⟨#[49]⟩ : ByteArray) (ten p)) := Fwi22.out.below hc23.out Fwi22.out.lt
              have Fwt23 : Hid (FB w23 w21.heap.size (⟨#[49]⟩ : ByteArray) (ten p)) := Fwt22.out.below hc23.out Fwt22.out.lt
              clear hb23 hc23 Fr22 Fa22 Fb22 Fag22 Ftw22 Fn22 Fwi22 Fwt22 HB22
              go_wp2
              go_ret
              exact ⟨rfl, HB23.out⟩

end Go.Proofs.Tryz
