/- RationalLimits returns true: products of more than 200 digits are refused. -/
import Derived.Test.YtjjmabokoendbaaGreatDoorLB
import Derived.Deep.QuietTactic
import Derived.BigQuiet
namespace Go.Proofs.Dt
theorem ten_lim_iff (k : Nat) : (((10 ^ k : Nat) : Int)).natAbs < limit ↔ k < 200 := by
  rw [Int.natAbs_natCast]; unfold limit
  exact ⟨fun h => (Nat.pow_lt_pow_iff_right (by decide)).1 h, fun h => Nat.pow_lt_pow_right (by decide) h⟩
theorem ten_succ_lim (k : Nat) : (((10 ^ k : Nat) : Int) + 1).natAbs < limit ↔ k < 200 := by
  have h1 : 0 < 10 ^ k := Nat.pow_pos (by decide)
  constructor
  · intro h
    refine (ten_lim_iff k).1 ?_
    omega
  · intro h
    have h2 : 10 ^ (k + 1) ≤ 10 ^ 200 := Nat.pow_le_pow_right (by decide) (by omega)
    rw [Nat.pow_succ] at h2
    unfold limit
    omega
/-- A power of ten, and one over it. -/
def tenR (k : Nat) : Rat := ((10 ^ k : Nat) : Int)
theorem tenR_num (k : Nat) : (tenR k).num = ((10 ^ k : Nat) : Int) := rfl
theorem tenR_den (k : Nat) : (tenR k).den = 1 := rfl
theorem tenR_fr {k : Nat} (h : k < 200) : Fr (ten k) ⟨#[49]⟩ (tenR k) := ⟨ten_is k, by rw [tenR_den]; exact Is.one, (ten_lim_iff k).2 h, by rw [tenR_den]; unfold limit; exact Nat.one_lt_pow (by decide) (by decide)⟩
theorem one_lim : (1 : Int).natAbs < limit := small_limit (by decide)
theorem tenI_pos (k : Nat) : 0 < ((10 ^ k : Nat) : Int) := ten_pos k
theorem one_over {k : Nat} : (Rat.divInt 1 ((10 ^ k : Nat) : Int)).num = 1 ∧ ((Rat.divInt 1 ((10 ^ k : Nat) : Int)).den : Int) = ((10 ^ k : Nat) : Int) :=
  divInt_low (ten_pos k) (by rw [Int.gcd_comm]; simp)
theorem one_over_fr {k : Nat} (h : k < 200) : Fr ⟨#[49]⟩ (ten k) (Rat.divInt 1 ((10 ^ k : Nat) : Int)) :=
  ⟨by rw [one_over.1]; exact Is.one, by rw [one_over.2]; exact ten_is k, by rw [one_over.1]; exact one_lim, by have := (ten_lim_iff k).2 h; have := (one_over (k := k)).2; omega⟩
theorem ten_mul (n m : Nat) : ((10 ^ n : Nat) : Int) * ((10 ^ m : Nat) : Int) = ((10 ^ (n + m) : Nat) : Int) := by rw [Nat.pow_add, Int.natCast_mul]
/-- The product of two powers. -/
theorem lim_mulR {n m : Nat} : mulR (tenR n) (tenR m) = if n + m < 200 then some (tenR n * tenR m) else none := by
  by_cases h : n + m < 200
  · rw [if_pos h]
    exact mulR_ok (by rw [tenR_num, tenR_num, ten_mul]; exact (ten_lim_iff _).2 h) (by rw [tenR_den, tenR_den]; exact one_lim)
  · rw [if_neg h]
    unfold mulR
    have : ok ((tenR n).num * (tenR m).num) = false := decide_eq_false (by rw [tenR_num, tenR_num, ten_mul]; exact fun k => h ((ten_lim_iff _).1 k))
    rw [this]; rfl
theorem one_ok : Fr ⟨#[49]⟩ ⟨#[49]⟩ 1 := Fr.of_frac (by decide +kernel)
theorem lim_divR {m : Nat} (h : m < 200) : divR 1 (tenR m) = some (Rat.divInt 1 ((10 ^ m : Nat) : Int)) := by
  unfold divR
  have e1 : (1 : Rat).num * ((tenR m).den : Int) = 1 := by rw [tenR_den]; rfl
  have e2 : ((1 : Rat).den : Int) * (tenR m).num = ((10 ^ m : Nat) : Int) := by rw [tenR_num]; show 1 * _ = _; omega
  have l1 := lt_ok one_lim
  have l2 := lt_ok ((ten_lim_iff m).2 h)
  rw [e1, e2, l1, l2, makeR_some (by have := ten_pos m; omega)]; rfl
theorem lim_sumR {n m : Nat} (hm : m < 200) : sumR (· + ·) (tenR n) (Rat.divInt 1 ((10 ^ m : Nat) : Int)) = if n + m < 200 then some (tenR n + Rat.divInt 1 ((10 ^ m : Nat) : Int)) else none := by
  have e1 : (tenR n).num * ((Rat.divInt 1 ((10 ^ m : Nat) : Int)).den : Int) = ((10 ^ (n + m) : Nat) : Int) := by rw [one_over.2, tenR_num, ten_mul]
  have e2 : (Rat.divInt 1 ((10 ^ m : Nat) : Int)).num * ((tenR n).den : Int) = 1 := by rw [one_over.1, tenR_den]; rfl
  have e3 : ((tenR n).den : Int) * ((Rat.divInt 1 ((10 ^ m : Nat) : Int)).den : Int) = ((10 ^ m : Nat) : Int) := by rw [one_over.2, tenR_den]; show 1 * _ = _; omega
  by_cases h : n + m < 200
  · rw [if_pos h]
    exact sumR_ok (by rw [e1]; exact (ten_lim_iff _).2 h) (by rw [e2]; exact one_lim) (by rw [e1, e2]; exact (ten_succ_lim _).2 h) (by rw [e3]; exact (ten_lim_iff _).2 hm)
  · rw [if_neg h]
    unfold sumR
    have : ok ((tenR n).num * ((Rat.divInt 1 ((10 ^ m : Nat) : Int)).den : Int)) = false := decide_eq_false (by rw [e1]; exact fun k => h ((ten_lim_iff _).1 k))
    rw [this]; rfl
theorem lim_cmp (n m : Nat) : cmpR (tenR n) (tenR m) = if n < m then -1 else if m < n then 1 else 0 := by
  unfold cmpR
  rw [tenR_num, tenR_num, tenR_den, tenR_den]
  rcases Nat.lt_trichotomy n m with h | h | h
  · have := Nat.pow_lt_pow_right (show 1 < 10 by decide) h
    rw [if_pos h, sgn_of_lt (by omega)]
  · subst h; rw [if_neg (by omega), if_neg (by omega), sgn_of_eq (by omega)]
  · have := Nat.pow_lt_pow_right (show 1 < 10 by decide) h
    rw [if_neg (by omega), if_pos h, sgn_of_gt (by omega)]
theorem lim_cmp2 (n m : Nat) : cmpR (tenR n) (Rat.divInt 1 ((10 ^ m : Nat) : Int)) = if n = 0 ∧ m = 0 then 0 else 1 := by
  unfold cmpR
  rw [one_over.1, one_over.2, tenR_num, tenR_den, ten_mul]
  by_cases h : n = 0 ∧ m = 0
  · obtain ⟨rfl, rfl⟩ := h
    rw [if_pos ⟨rfl, rfl⟩]; decide
  · rw [if_neg h]
    have : 1 < 10 ^ (n + m) := Nat.one_lt_pow (by omega) (by decide)
    rw [sgn_of_gt (by show 0 < _ - 1 * ((1 : Nat) : Int); omega)]
theorem ten_size (k : Nat) : (ten k).size = k + 1 := by show (49 :: List.replicate k (48 : UInt8)).toArray.size = _; simp
end Go.Proofs.Dt
namespace Go.Proofs.Tryz
open Go.RowKit Go.Shelf Go.Proofs.Dt

set_option maxHeartbeats 4000000 in
set_option maxRecDepth 100000 in
theorem rationalLimits_any (x0 x1 : Int) (w : World) (ht : Tab w) (hm : Lens w) (hi : ∀ x ∈ [x0, x1], I64 x) :
    Calls Tryz.prog 7 #[.int .i64 x0, .int .i64 x1] w fun e w' => e = .returned (.bool true) ∧ Below w.heap.size w w' := by
  have HT := Lib.hid ht
  have HM := Lib.hid hm
  have HI := Lib.hid hi
  have HB0 := Since.refl w
  obtain ⟨n, hn⟩ : ∃ n : Nat, (n : Int) = pickZ x0 200 := ⟨(pickZ x0 200).toNat, by have := pickZ_in x0 (n := 200) (by decide); omega⟩
  obtain ⟨m, hmm⟩ : ∃ m : Nat, (m : Int) = pickZ x1 200 := ⟨(pickZ x1 200).toNat, by have := pickZ_in x1 (n := 200) (by decide); omega⟩
  have bn : n < 200 := by have := pickZ_in x0 (n := 200) (by decide); omega
  have bm : m < 200 := by have := pickZ_in x1 (n := 200) (by decide); omega
  have HP0 : Hid (∀ W, Calls Tryz.prog 19 #[.int .i64 x0, .int .i64 200] W fun e w' => e = .returned (.int .i64 (n : Int)) ∧ Since W w') := fun W => by
    rw [hn]; exact (lpick_any x0 200 (HI.out x0 (by simp)) (by decide) (by decide) W).mono fun e w' h => ⟨h.1, by rw [← h.2]; exact Since.refl W⟩
  have HP1 : Hid (∀ W, Calls Tryz.prog 19 #[.int .i64 x1, .int .i64 200] W fun e w' => e = .returned (.int .i64 (m : Int)) ∧ Since W w') := fun W => by
    rw [hmm]; exact (lpick_any x1 200 (HI.out x1 (by simp)) (by decide) (by decide) W).mono fun e w' h => ⟨h.1, by rw [← h.2]; exact Since.refl W⟩
  have FX := tenR_fr bn
  have FY := tenR_fr bm
  have FS := one_over_fr bm
  obtain ⟨u1, v1, c1, h1, D1⟩ : ∃ u v c, out (mulO (frac (ten n).data.toList (⟨#[49]⟩ : ByteArray).data.toList) (frac (ten m).data.toList (⟨#[49]⟩ : ByteArray).data.toList)) = (u, v, c) ∧ ((n + m < 200 ∧ c = 0) ∨ (¬ n + m < 200 ∧ c = 40 ∧ u = ⟨#[]⟩ ∧ v = ⟨#[]⟩)) := by
    refine ⟨_, _, _, rfl, ?_⟩
    rw [mulO_fr FX FY, lim_mulR]
    by_cases h : n + m < 200
    · rw [if_pos h]; exact .inl ⟨h, rfl⟩
    · rw [if_neg h]; exact .inr ⟨h, rfl, rfl, rfl⟩
  have E1 := Lib.hid h1
  have E2 : Hid (out (divO (frac (⟨#[49]⟩ : ByteArray).data.toList (⟨#[49]⟩ : ByteArray).data.toList) (frac (ten m).data.toList (⟨#[49]⟩ : ByteArray).data.toList)) = ((⟨#[49]⟩ : ByteArray), ten m, 0)) := by
    show out _ = _
    rw [divO_fr one_ok FY, lim_divR bm]; exact out_fr FS
  obtain ⟨u3, v3, c3, h3, D3⟩ : ∃ u v c, out (addO (frac (ten n).data.toList (⟨#[49]⟩ : ByteArray).data.toList) (frac (⟨#[49]⟩ : ByteArray).data.toList (ten m).data.toList)) = (u, v, c) ∧ ((n + m < 200 ∧ c = 0) ∨ (¬ n + m < 200 ∧ c = 40)) := by
    refine ⟨_, _, _, rfl, ?_⟩
    rw [addO_fr FX FS, lim_sumR bm]
    by_cases h : n + m < 200
    · rw [if_pos h]; exact .inl ⟨h, rfl⟩
    · rw [if_neg h]; exact .inr ⟨h, rfl⟩
  have E3 := Lib.hid h3
  obtain ⟨q4, hq4⟩ : ∃ q, q = (if n < m then -1 else if m < n then 1 else 0 : Int) := ⟨_, rfl⟩
  obtain ⟨q5, hq5⟩ : ∃ q, q = (if n = 0 ∧ m = 0 then 0 else 1 : Int) := ⟨_, rfl⟩
  have E4 : Hid (cmpO (frac (ten n).data.toList (⟨#[49]⟩ : ByteArray).data.toList) (frac (ten m).data.toList (⟨#[49]⟩ : ByteArray).data.toList) = q4) := (cmpO_fr FX FY).trans ((lim_cmp n m).trans hq4.symm)
  have E5 : Hid (cmpO (frac (ten n).data.toList (⟨#[49]⟩ : ByteArray).data.toList) (frac (⟨#[49]⟩ : ByteArray).data.toList (ten m).data.toList) = q5) := (cmpO_fr FX FS).trans ((lim_cmp2 n m).trans hq5.symm)
  have H4 := Lib.hid hq4
  have H5 := Lib.hid hq5
  have HD1 := Lib.hid D1
  have HD3 := Lib.hid D3
  clear ht hm hi hn hmm FX FY FS h1 h3 D1 D3 hq4 hq5
  have mixed : Tryz.prog.follows .mixedOrders = true := by kernel_rfl
  go_enter Tryz.func7, Tryz.ntmps7
  go_wp2_with fail
  refine (sane_to w w HT HM HB0).mono ?_
  rintro e w1 ⟨rfl, hb1⟩
  have hc1 : Since w w1 := hb1
  have HB1 : Since w w1 := HB0.next hc1.out
  clear hb1 hc1 
  go_wp2_with fail
  refine (HP0.out w1).mono ?_
  rintro e w2 ⟨rfl, hb2⟩
  have hc2 : Since w1 w2 := hb2
  have HB2 : Since w w2 := HB1.next hc2.out
  clear hb2 hc2  HB1
  go_wp2_with fail
  refine (HP1.out w2).mono ?_
  rintro e w3 ⟨rfl, hb3⟩
  have hc3 : Since w2 w3 := hb3
  have HB3 : Since w w3 := HB2.next hc3.out
  clear hb3 hc3  HB2
  clear HP0 HP1
  go_wp2_with fail
  skip
  go_loop [6, 7] (fun v i => ∃ k : Nat, k ≤ n ∧ v = .string (ten k) ∧ i = .int .i64 (k : Int)) (fun _ i => n - (intOf i).toNat)
  case atStart => exact ⟨0, by omega, rfl, rfl⟩
  case round =>
    obtain ⟨k, hk, rfl, rfl⟩ := hrel
    by_cases hlt : k < n
    · have hsz := ten_size k
      have hks : k + 1 ≤ 300 := by omega
      go_wp2_with fail
      go_round
      case rel => exact ⟨k + 1, by omega, by rw [ten_next], by go_num⟩
      case measure => simp [intOf]; omega
    · have hkn : n = k := by omega
      subst hkn
      clear hk hlt
      go_wp2_with fail
      go_loop [8, 9] (fun v i => ∃ k : Nat, k ≤ m ∧ v = .string (ten k) ∧ i = .int .i64 (k : Int)) (fun _ i => m - (intOf i).toNat)
      case atStart => exact ⟨0, by omega, rfl, rfl⟩
      case round =>
        obtain ⟨k, hk, rfl, rfl⟩ := hrel
        by_cases hlt : k < m
        · have hsz := ten_size k
          have hks : k + 1 ≤ 300 := by omega
          go_wp2_with fail
          go_round
          case rel => exact ⟨k + 1, by omega, by rw [ten_next], by go_num⟩
          case measure => simp [intOf]; omega
        · have hkn : m = k := by omega
          subst hkn
          clear hk hlt
          go_wp2_with fail
          refine (is_any (ten n) (⟨#[49]⟩ : ByteArray) w3).mono ?_
          rintro e w4 ⟨rfl, hb4⟩
          have hc4 : Since w3 w4 := hb4
          have HB4 : Since w w4 := HB3.next hc4.out
          clear hb4 hc4  HB3
          have hA5 : Since w4 (w4.alloc (.cells #[.string (ten n), .string (⟨#[49]⟩ : ByteArray)] 26)) := (Below.refl _ w4).alloc (Nat.le_refl _) _
          have HB5 : Since w (w4.alloc (.cells #[.string (ten n), .string (⟨#[49]⟩ : ByteArray)] 26)) := HB4.next hA5.out
          have Fx5 : Hid (FB (w4.alloc (.cells #[.string (ten n), .string (⟨#[49]⟩ : ByteArray)] 26)) w4.heap.size (ten n) (⟨#[49]⟩ : ByteArray)) := FB.new _ _ _
          clear hA5  HB4
          go_wp2_with fail
          generalize (w4.alloc (.cells #[.string (ten n), .string (⟨#[49]⟩ : ByteArray)] 26)) = w5 at Fx5 HB5 ⊢
          refine (is_any (ten m) (⟨#[49]⟩ : ByteArray) w5).mono ?_
          rintro e w6 ⟨rfl, hb6⟩
          have hc6 : Since w5 w6 := hb6
          have HB6 : Since w w6 := HB5.next hc6.out
          have Fx6 : Hid (FB w6 w4.heap.size (ten n) (⟨#[49]⟩ : ByteArray)) := Fx5.out.below hc6.out Fx5.out.lt
          clear hb6 hc6 Fx5 HB5
          have hA7 : Since w6 (w6.alloc (.cells #[.string (ten m), .string (⟨#[49]⟩ : ByteArray)] 26)) := (Below.refl _ w6).alloc (Nat.le_refl _) _
          have Fx7 : Hid (FB (w6.alloc (.cells #[.string (ten m), .string (⟨#[49]⟩ : ByteArray)] 26)) w4.heap.size (ten n) (⟨#[49]⟩ : ByteArray)) := Fx6.out.below hA7.out Fx6.out.lt
          have HB7 : Since w (w6.alloc (.cells #[.string (ten m), .string (⟨#[49]⟩ : ByteArray)] 26)) := HB6.next hA7.out
          have Fy7 : Hid (FB (w6.alloc (.cells #[.string (ten m), .string (⟨#[49]⟩ : ByteArray)] 26)) w6.heap.size (ten m) (⟨#[49]⟩ : ByteArray)) := FB.new _ _ _
          clear hA7 Fx6 HB6
          have r0x := Fx7.out.c0; have r1x := Fx7.out.c1
          go_wp2_with fail
          clear r0x r1x
          generalize (w6.alloc (.cells #[.string (ten m), .string (⟨#[49]⟩ : ByteArray)] 26)) = w7 at Fx7 Fy7 HB7 ⊢
          refine (fmul_any (ten n) (⟨#[49]⟩ : ByteArray) (ten m) (⟨#[49]⟩ : ByteArray) u1 v1 c1 w7 (HB7.tab HT) E1).mono ?_
          rintro e w8 ⟨rfl, hb8⟩
          have hc8 : Since w7 w8 := hb8
          have HB8 : Since w w8 := HB7.next hc8.out
          have Fx8 : Hid (FB w8 w4.heap.size (ten n) (⟨#[49]⟩ : ByteArray)) := Fx7.out.below hc8.out Fx7.out.lt
          have Fy8 : Hid (FB w8 w6.heap.size (ten m) (⟨#[49]⟩ : ByteArray)) := Fy7.out.below hc8.out Fy7.out.lt
          clear hb8 hc8 Fx7 Fy7 HB7
          have hA9 : Since w8 (w8.alloc (.cells #[.string u1, .string v1] 26)) := (Below.refl _ w8).alloc (Nat.le_refl _) _
          have Fx9 : Hid (FB (w8.alloc (.cells #[.string u1, .string v1] 26)) w4.heap.size (ten n) (⟨#[49]⟩ : ByteArray)) := Fx8.out.below hA9.out Fx8.out.lt
          have Fy9 : Hid (FB (w8.alloc (.cells #[.string u1, .string v1] 26)) w6.heap.size (ten m) (⟨#[49]⟩ : ByteArray)) := Fy8.out.below hA9.out Fy8.out.lt
          have HB9 : Since w (w8.alloc (.cells #[.string u1, .string v1] 26)) := HB8.next hA9.out
          have Fz9 : Hid (FB (w8.alloc (.cells #[.string u1, .string v1] 26)) w8.heap.size u1 v1) := FB.new _ _ _
          clear hA9 Fx8 Fy8 HB8
          go_upto_region 18 with fail
          generalize (w8.alloc (.cells #[.string u1, .string v1] 26)) = w9 at Fx9 Fy9 Fz9 HB9 ⊢
          go_cut [14, 15] from 17 (fun s14 s15 W => ∃ b3 : Nat, s14 = .pointer (some ⟨b3, 0, none⟩) ∧ s15 = .int .i64 0 ∧ FB W b3 (⟨#[49]⟩ : ByteArray) (ten m) ∧ w9.heap.size ≤ b3 ∧ Since w9 W)
          case first =>
            have HTa : Hid (Tab w9) := HB9.tab HT
            have HSall : Hid (∀ W', Since w9 W' → Since w9 W' ∧ W'.cell? ⟨w4.heap.size, 0, none⟩ = some (.string (ten n)) ∧ W'.cell? ⟨w4.heap.size, 1, none⟩ = some (.string (⟨#[49]⟩ : ByteArray)) ∧ W'.cell? ⟨w6.heap.size, 0, none⟩ = some (.string (ten m)) ∧ W'.cell? ⟨w6.heap.size, 1, none⟩ = some (.string (⟨#[49]⟩ : ByteArray)) ∧ W'.cell? ⟨w8.heap.size, 0, none⟩ = some (.string u1) ∧ W'.cell? ⟨w8.heap.size, 1, none⟩ = some (.string v1)) := by
              intro W' h
              have gx := Fx9.out.below h.out Fx9.out.lt
              have gy := Fy9.out.below h.out Fy9.out.lt
              have gz := Fz9.out.below h.out Fz9.out.lt
              exact ⟨h, gx.c0, gx.c1, gy.c0, gy.c1, gz.c0, gz.c1⟩
            have HPd := HSall.out w9.drew (Since.refl w9).out.drew
            go_region_held3 (fun W' => Since w9 W' ∧ W'.cell? ⟨w4.heap.size, 0, none⟩ = some (.string (ten n)) ∧ W'.cell? ⟨w4.heap.size, 1, none⟩ = some (.string (⟨#[49]⟩ : ByteArray)) ∧ W'.cell? ⟨w6.heap.size, 0, none⟩ = some (.string (ten m)) ∧ W'.cell? ⟨w6.heap.size, 1, none⟩ = some (.string (⟨#[49]⟩ : ByteArray)) ∧ W'.cell? ⟨w8.heap.size, 0, none⟩ = some (.string u1) ∧ W'.cell? ⟨w8.heap.size, 1, none⟩ = some (.string v1))
              (first | assumption | exact HSall.out _ (sk_next (by assumption) HB2) | exact HSall.out _ (sk_alloc (by assumption) _) | exact HSall.out _ (sk_realloc (by assumption) (by first | exact Nat.le_refl _ | assumption) _) | exact HSall.out _ (sk_put (by assumption) (by first | exact Nat.le_refl _ | assumption) _ _))
              (first
                | (go_at_call 16; refine (is_any (⟨#[49]⟩ : ByteArray) (⟨#[49]⟩ : ByteArray) _).mono ?_; rintro e W2 ⟨rfl, HB2⟩; have hz2 := sk_size (by assumption) HB2; (first | have HK2 := FB.held HB2 | have HK2 := FB.heldd HB2 | skip); (try have k0 := HK2.c0); (try have k1 := HK2.c1); (try have k2 := HK2.f0); (try have k3 := HK2.f1))
                | (go_at_call 32; refine (fdiv_any (⟨#[49]⟩ : ByteArray) (⟨#[49]⟩ : ByteArray) (ten m) (⟨#[49]⟩ : ByteArray) _ _ 0 _ (sk_tab HTa (by assumption)) E2).mono ?_; rintro e W3 ⟨rfl, HB2⟩; have hz3 := sk_size (by assumption) HB2; (first | have HK3 := FB.held HB2 | have HK3 := FB.heldd HB2 | have HK3 := FB.below HK2 HB2.out HK2.lt | skip); (try have k4 := HK3.c0); (try have k5 := HK3.c1); (try have k6 := HK3.f0); (try have k7 := HK3.f1)))
            all_goals
              (go_wp2_with fail
               go_meet
               case rel => first | exact ⟨_, rfl, rfl, FB.new _ _ _, by first | exact hz3 | exact Nat.le_refl _, sk_at (by assumption)⟩ | exact ⟨_, rfl, rfl, HK3.put _ _, by first | exact Nat.le_refl _ | exact hz2 | exact hz3, sk_at (by assumption)⟩)
          case rest =>
            obtain ⟨ks, hps, hqs, hbs, hls, hc10⟩ := hcut
            subst hps hqs
            have HB10 : Since w wc := HB9.next hc10.out
            have Fx10 : Hid (FB wc w4.heap.size (ten n) (⟨#[49]⟩ : ByteArray)) := Fx9.out.below hc10.out Fx9.out.lt
            have Fy10 : Hid (FB wc w6.heap.size (ten m) (⟨#[49]⟩ : ByteArray)) := Fy9.out.below hc10.out Fy9.out.lt
            have Fz10 : Hid (FB wc w8.heap.size u1 v1) := Fz9.out.below hc10.out Fz9.out.lt
            have Fs10 : Hid (FB wc ks (⟨#[49]⟩ : ByteArray) (ten m)) := hbs
            clear hc10 hbs hls Fx9 Fy9 Fz9 HB9
            generalize wc = w10 at Fx10 Fy10 Fz10 Fs10 HB10 ⊢
            have r0x := Fx10.out.c0; have r1x := Fx10.out.c1
            have r0s := Fs10.out.c0; have r1s := Fs10.out.c1
            go_wp2_with fail
            clear r0x r1x r0s r1s
            refine (fadd_any (ten n) (⟨#[49]⟩ : ByteArray) (⟨#[49]⟩ : ByteArray) (ten m) u3 v3 c3 w10 (HB10.tab HT) E3).mono ?_
            rintro e w11 ⟨rfl, hb11⟩
            have hc11 : Since w10 w11 := hb11
            have HB11 : Since w w11 := HB10.next hc11.out
            have Fx11 : Hid (FB w11 w4.heap.size (ten n) (⟨#[49]⟩ : ByteArray)) := Fx10.out.below hc11.out Fx10.out.lt
            have Fy11 : Hid (FB w11 w6.heap.size (ten m) (⟨#[49]⟩ : ByteArray)) := Fy10.out.below hc11.out Fy10.out.lt
            have Fz11 : Hid (FB w11 w8.heap.size u1 v1) := Fz10.out.below hc11.out Fz10.out.lt
            have Fs11 : Hid (FB w11 ks (⟨#[49]⟩ : ByteArray) (ten m)) := Fs10.out.below hc11.out Fs10.out.lt
            clear hb11 hc11 Fx10 Fy10 Fz10 Fs10 HB10
            have hA12 : Since w11 (w11.alloc (.cells #[.string u3, .string v3] 26)) := (Below.refl _ w11).alloc (Nat.le_refl _) _
            have Fx12 : Hid (FB (w11.alloc (.cells #[.string u3, .string v3] 26)) w4.heap.size (ten n) (⟨#[49]⟩ : ByteArray)) := Fx11.out.below hA12.out Fx11.out.lt
            have Fy12 : Hid (FB (w11.alloc (.cells #[.string u3, .string v3] 26)) w6.heap.size (ten m) (⟨#[49]⟩ : ByteArray)) := Fy11.out.below hA12.out Fy11.out.lt
            have Fz12 : Hid (FB (w11.alloc (.cells #[.string u3, .string v3] 26)) w8.heap.size u1 v1) := Fz11.out.below hA12.out Fz11.out.lt
            have Fs12 : Hid (FB (w11.alloc (.cells #[.string u3, .string v3] 26)) ks (⟨#[49]⟩ : ByteArray) (ten m)) := Fs11.out.below hA12.out Fs11.out.lt
            have HB12 : Since w (w11.alloc (.cells #[.string u3, .string v3] 26)) := HB11.next hA12.out
            have Fg12 : Hid (FB (w11.alloc (.cells #[.string u3, .string v3] 26)) w11.heap.size u3 v3) := FB.new _ _ _
            clear hA12 Fx11 Fy11 Fz11 Fs11 HB11
            go_upto_region 20 with fail
            generalize (w11.alloc (.cells #[.string u3, .string v3] 26)) = w12 at Fx12 Fy12 Fz12 Fs12 Fg12 HB12 ⊢
            go_cut [18, 93] from 21 (fun s18 s93 W => s93 = .bool false ∧ Since w12 W)
            case first =>
              have hd1 := HD1.out
              have hd3 := HD3.out
              have r0z := Fz12.out.c0; have r1z := Fz12.out.c1
              rcases hd1 with ⟨hs, rfl⟩ | ⟨hs, rfl, rfl, rfl⟩
              · rcases hd3 with ⟨hs3, rfl⟩ | ⟨hs3, rfl⟩
                case inr => exact absurd hs hs3
                have hdd : decide ((n : Int) + (m : Int) + 1 ≤ 200) = true := decide_eq_true (by omega)
                simp only [hdd]
                go_wp2_with fail
                go_meet
                case rel => exact ⟨rfl, Since.refl _⟩
              · rcases hd3 with ⟨hs3, rfl⟩ | ⟨hs3, rfl⟩
                case inl => exact absurd hs3 hs
                have hdd : decide ((n : Int) + (m : Int) + 1 ≤ 200) = false := decide_eq_false (by omega)
                simp only [hdd]
                go_wp2_with fail
                go_meet
                case rel => exact ⟨rfl, Since.refl _⟩
            case rest =>
              obtain ⟨h93, hc13⟩ := hcut
              have HB13 : Since w wc := HB12.next hc13.out
              have Fx13 : Hid (FB wc w4.heap.size (ten n) (⟨#[49]⟩ : ByteArray)) := Fx12.out.below hc13.out Fx12.out.lt
              have Fy13 : Hid (FB wc w6.heap.size (ten m) (⟨#[49]⟩ : ByteArray)) := Fy12.out.below hc13.out Fy12.out.lt
              have Fz13 : Hid (FB wc w8.heap.size u1 v1) := Fz12.out.below hc13.out Fz12.out.lt
              have Fs13 : Hid (FB wc ks (⟨#[49]⟩ : ByteArray) (ten m)) := Fs12.out.below hc13.out Fs12.out.lt
              have Fg13 : Hid (FB wc w11.heap.size u3 v3) := Fg12.out.below hc13.out Fg12.out.lt
              clear hc13 Fx12 Fy12 Fz12 Fs12 Fg12 HB12
              generalize wc = w13 at Fx13 Fy13 Fz13 Fs13 Fg13 HB13 ⊢
              subst h93
              go_upto_if 96 with fail
              go_cut [19] from 21 (fun s19 W => s19 = .int .i64 q4 ∧ Since w13 W)
              case first =>
                have hq : (n < m ∧ q4 = -1 ∧ q5 = 1 ∧ ¬ (n = 0 ∧ m = 0)) ∨ (m < n ∧ q4 = 1 ∧ q5 = 1 ∧ ¬ (n = 0 ∧ m = 0)) ∨ (n = m ∧ q4 = 0 ∧ q5 = 1 ∧ n ≠ 0) ∨ (n = 0 ∧ m = 0 ∧ q4 = 0 ∧ q5 = 0) := by
                  have h4 : q4 = (if n < m then -1 else if m < n then 1 else 0 : Int) := H4.out
                  have h5 : q5 = (if n = 0 ∧ m = 0 then 0 else 1 : Int) := H5.out
                  by_cases p1 : n < m <;> by_cases p2 : m < n <;> by_cases p3 : n = 0 <;> by_cases p4 : m = 0 <;> simp [p1, p2, p3, p4] at h4 h5 <;> omega
                have hc : ((n : Int) < m ∧ q4 = -1) ∨ (¬ (n : Int) < m ∧ (m : Int) < n ∧ q4 = 1) ∨ (¬ (n : Int) < m ∧ ¬ (m : Int) < n ∧ q4 = 0) := by omega
                clear hq
                rcases hc with ⟨p1, rfl⟩ | ⟨p1, p2, rfl⟩ | ⟨p1, p2, rfl⟩
                all_goals
                  go_wp2_with fail
                  go_meet
                  case rel => exact ⟨rfl, Since.refl _⟩
              case rest =>
                obtain ⟨h19, hc14⟩ := hcut
                have HB14 : Since w wc := HB13.next hc14.out
                have Fx14 : Hid (FB wc w4.heap.size (ten n) (⟨#[49]⟩ : ByteArray)) := Fx13.out.below hc14.out Fx13.out.lt
                have Fy14 : Hid (FB wc w6.heap.size (ten m) (⟨#[49]⟩ : ByteArray)) := Fy13.out.below hc14.out Fy13.out.lt
                have Fz14 : Hid (FB wc w8.heap.size u1 v1) := Fz13.out.below hc14.out Fz13.out.lt
                have Fs14 : Hid (FB wc ks (⟨#[49]⟩ : ByteArray) (ten m)) := Fs13.out.below hc14.out Fs13.out.lt
                have Fg14 : Hid (FB wc w11.heap.size u3 v3) := Fg13.out.below hc14.out Fg13.out.lt
                clear hc14 Fx13 Fy13 Fz13 Fs13 Fg13 HB13
                generalize wc = w14 at Fx14 Fy14 Fz14 Fs14 Fg14 HB14 ⊢
                subst h19
                go_upto_region 28 with fail
                obtain ⟨z5, HZ⟩ : ∃ z5 : Bool, Hid ((n = 0 ∧ m = 0 ∧ z5 = true ∧ q5 = 0) ∨ (n = 0 ∧ (m : Int) ≠ 0 ∧ z5 = false ∧ q5 = 1) ∨ ((n : Int) ≠ 0 ∧ z5 = false ∧ q5 = 1)) := by
                  have hq : (n < m ∧ q4 = -1 ∧ q5 = 1 ∧ ¬ (n = 0 ∧ m = 0)) ∨ (m < n ∧ q4 = 1 ∧ q5 = 1 ∧ ¬ (n = 0 ∧ m = 0)) ∨ (n = m ∧ q4 = 0 ∧ q5 = 1 ∧ n ≠ 0) ∨ (n = 0 ∧ m = 0 ∧ q4 = 0 ∧ q5 = 0) := by
                    have h4 : q4 = (if n < m then -1 else if m < n then 1 else 0 : Int) := H4.out
                    have h5 : q5 = (if n = 0 ∧ m = 0 then 0 else 1 : Int) := H5.out
                    by_cases p1 : n < m <;> by_cases p2 : m < n <;> by_cases p3 : n = 0 <;> by_cases p4 : m = 0 <;> simp [p1, p2, p3, p4] at h4 h5 <;> omega
                  by_cases p : n = 0 ∧ m = 0
                  · exact ⟨true, .inl ⟨p.1, p.2, rfl, by omega⟩⟩
                  · by_cases pn : n = 0
                    · exact ⟨false, .inr (.inl ⟨pn, by omega, rfl, by omega⟩)⟩
                    · exact ⟨false, .inr (.inr ⟨by omega, rfl, by omega⟩)⟩
                go_cut [105] from 21 (fun s105 W => s105 = .bool z5 ∧ Since w14 W)
                case first =>
                  rcases HZ.out with ⟨rfl, rfl, rfl, _⟩ | ⟨rfl, p2, rfl, _⟩ | ⟨p1, rfl, _⟩
                  all_goals
                    go_wp2_with fail
                    go_meet
                    case rel => exact ⟨by first | rfl | exact congrArg Value.bool (beq_false_of_ne p2), Since.refl _⟩
                case rest =>
                  obtain ⟨h105, hc15⟩ := hcut
                  have HB15 : Since w wc := HB14.next hc15.out
                  have Fx15 : Hid (FB wc w4.heap.size (ten n) (⟨#[49]⟩ : ByteArray)) := Fx14.out.below hc15.out Fx14.out.lt
                  have Fy15 : Hid (FB wc w6.heap.size (ten m) (⟨#[49]⟩ : ByteArray)) := Fy14.out.below hc15.out Fy14.out.lt
                  have Fz15 : Hid (FB wc w8.heap.size u1 v1) := Fz14.out.below hc15.out Fz14.out.lt
                  have Fs15 : Hid (FB wc ks (⟨#[49]⟩ : ByteArray) (ten m)) := Fs14.out.below hc15.out Fs14.out.lt
                  have Fg15 : Hid (FB wc w11.heap.size u3 v3) := Fg14.out.below hc15.out Fg14.out.lt
                  clear hc15 Fx14 Fy14 Fz14 Fs14 Fg14 HB14
                  generalize wc = w15 at Fx15 Fy15 Fz15 Fs15 Fg15 HB15 ⊢
                  subst h105
                  go_upto_if 105 with fail
                  go_cut [20] from 21 (fun s20 W => s20 = .int .i64 q5 ∧ Since w15 W)
                  case first =>
                    have hz : (z5 = true ∧ q5 = 0) ∨ (z5 = false ∧ q5 = 1) := by
                      rcases HZ.out with ⟨_, _, h, k⟩ | ⟨_, _, h, k⟩ | ⟨_, h, k⟩
                      · exact .inl ⟨h, k⟩
                      · exact .inr ⟨h, k⟩
                      · exact .inr ⟨h, k⟩
                    rcases hz with ⟨rfl, rfl⟩ | ⟨rfl, rfl⟩
                    all_goals
                      go_wp2_with fail
                      go_meet
                      case rel => exact ⟨rfl, Since.refl _⟩
                  case rest =>
                    obtain ⟨h20, hc16⟩ := hcut
                    have HB16 : Since w wc := HB15.next hc16.out
                    have Fx16 : Hid (FB wc w4.heap.size (ten n) (⟨#[49]⟩ : ByteArray)) := Fx15.out.below hc16.out Fx15.out.lt
                    have Fy16 : Hid (FB wc w6.heap.size (ten m) (⟨#[49]⟩ : ByteArray)) := Fy15.out.below hc16.out Fy15.out.lt
                    have Fz16 : Hid (FB wc w8.heap.size u1 v1) := Fz15.out.below hc16.out Fz15.out.lt
                    have Fs16 : Hid (FB wc ks (⟨#[49]⟩ : ByteArray) (ten m)) := Fs15.out.below hc16.out Fs15.out.lt
                    have Fg16 : Hid (FB wc w11.heap.size u3 v3) := Fg15.out.below hc16.out Fg15.out.lt
                    clear hc16 Fx15 Fy15 Fz15 Fs15 Fg15 HB15
                    generalize wc = w16 at Fx16 Fy16 Fz16 Fs16 Fg16 HB16 ⊢
                    subst h20
                    have r0x := Fx16.out.c0; have r1x := Fx16.out.c1
                    have r0y := Fy16.out.c0; have r1y := Fy16.out.c1
                    go_wp2_with fail
                    clear r0x r1x r0y r1y
                    refine (fcmp_any (ten n) (⟨#[49]⟩ : ByteArray) (ten m) (⟨#[49]⟩ : ByteArray) q4 w16 (HB16.tab HT) E4).mono ?_
                    rintro e w17 ⟨rfl, hb17⟩
                    have hc17 : Since w16 w17 := hb17
                    have HB17 : Since w w17 := HB16.next hc17.out
                    have Fx17 : Hid (FB w17 w4.heap.size (ten n) (⟨#[49]⟩ : ByteArray)) := Fx16.out.below hc17.out Fx16.out.lt
                    have Fy17 : Hid (FB w17 w6.heap.size (ten m) (⟨#[49]⟩ : ByteArray)) := Fy16.out.below hc17.out Fy16.out.lt
                    have Fz17 : Hid (FB w17 w8.heap.size u1 v1) := Fz16.out.below hc17.out Fz16.out.lt
                    have Fs17 : Hid (FB w17 ks (⟨#[49]⟩ : ByteArray) (ten m)) := Fs16.out.below hc17.out Fs16.out.lt
                    have Fg17 : Hid (FB w17 w11.heap.size u3 v3) := Fg16.out.below hc17.out Fg16.out.lt
                    clear hb17 hc17 Fx16 Fy16 Fz16 Fs16 Fg16 HB16
                    have r0x := Fx17.out.c0; have r1x := Fx17.out.c1
                    have r0s := Fs17.out.c0; have r1s := Fs17.out.c1
                    go_wp2_with fail
                    clear r0x r1x r0s r1s
                    refine (fcmp_any (ten n) (⟨#[49]⟩ : ByteArray) (⟨#[49]⟩ : ByteArray) (ten m) q5 w17 (HB17.tab HT) E5).mono ?_
                    rintro e w18 ⟨rfl, hb18⟩
                    have hc18 : Since w17 w18 := hb18
                    have HB18 : Since w w18 := HB17.next hc18.out
                    have Fx18 : Hid (FB w18 w4.heap.size (ten n) (⟨#[49]⟩ : ByteArray)) := Fx17.out.below hc18.out Fx17.out.lt
                    have Fy18 : Hid (FB w18 w6.heap.size (ten m) (⟨#[49]⟩ : ByteArray)) := Fy17.out.below hc18.out Fy17.out.lt
                    have Fz18 : Hid (FB w18 w8.heap.size u1 v1) := Fz17.out.below hc18.out Fz17.out.lt
                    have Fs18 : Hid (FB w18 ks (⟨#[49]⟩ : ByteArray) (ten m)) := Fs17.out.below hc18.out Fs17.out.lt
                    have Fg18 : Hid (FB w18 w11.heap.size u3 v3) := Fg17.out.below hc18.out Fg17.out.lt
                    clear hb18 hc18 Fx17 Fy17 Fz17 Fs17 Fg17 HB17
                    go_wp2
                    go_ret
                    exact ⟨rfl, HB18.out⟩

end Go.Proofs.Tryz
