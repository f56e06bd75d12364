/- 'sane' of the laws of chapter 04: its fixed examples stand. -/
import Derived.Test.YtjjmabokoendbaaGreatDoorFr4
import Derived.Test.YtjjmabokoendbaaGreatDoorFr5
import Derived.Test.YtjjmabokoendbaaGreatDoorFr6
import Derived.Test.YtjjmabokoendbaaGreatDoorFr7
import Derived.Test.YtjjmabokoendbaaGreatDoorQB
namespace Go.Proofs.Dt
theorem out_lit {o : Option Rat} {u v : ByteArray} (r : Rat) (h : o = some r) (hr : frac u.data.toList v.data.toList = some r) : out o = (u, v, 0) := by rw [h]; exact out_fr (Fr.of_frac hr)
theorem out_no {o : Option Rat} (h : o = none) : out o = (⟨#[]⟩, ⟨#[]⟩, 40) := by rw [h]; rfl
end Go.Proofs.Dt
namespace Go.Proofs.Tryz
open Go.RowKit Go.Shelf Go.Proofs.Dt

theorem sk_tab {W0 X : World} {R : Prop} (ht : Hid (Tab W0)) (h : Since W0 X ∧ R) : Hid (Tab X) := Since.tab ht h.1

theorem is_any (x y : ByteArray) (w : World) : Calls Tryz.prog 16 #[.string x, .string y] w fun e w' => e = .returned (.agg #[.string x, .string y]) ∧ Since w w' := by
  have HF : Hid (FB (w.alloc (.cells #[.string x, .string y] 26)) w.heap.size x y) := FB.new w x y
  go_enter Tryz.func16, Tryz.ntmps16
  go_wp2
  refine bodyPost_ret (results_row (p := 4) (by kernel_rfl) _ _ w.heap.size _ _ rfl HF.out) rfl ?_
  exact ⟨rfl, (Below.refl _ w).alloc (Nat.le_refl _) _⟩

theorem fvalid_to (x y : ByteArray) (v : Bool) (w : World) (ht : Hid (Tab w)) (h : Hid (validR x.data.toList y.data.toList = v)) : Calls Tryz.prog 27 #[.agg #[.string x, .string y]] w fun e w' => e = .returned (.bool v) ∧ Since w w' := by
  rw [← show _ = v from h.out]; exact validR_any x y w ht

set_option maxHeartbeats 4000000 in
set_option maxRecDepth 100000 in
theorem sane_any (w : World) (ht : Tab w) (hm : Lens w) : Calls Tryz.prog 11 #[] w fun e w' => e = .returned (.bool true) ∧ Below w.heap.size w w' := by
  have HT := Lib.hid ht
  have HM := Lib.hid hm
  have HB0 := Since.refl w
  clear ht hm
  have mixed : Tryz.prog.follows .mixedOrders = true := by kernel_rfl
  have E1 : Hid (out (makeR 6 (-4)) = ((⟨#[45, 51]⟩ : ByteArray), (⟨#[50]⟩ : ByteArray), 0)) := out_lit (Rat.divInt (-3) 2) (by decide +kernel) (by decide +kernel)
  have E2 : Hid (out (makeR 0 (-5)) = ((⟨#[48]⟩ : ByteArray), (⟨#[49]⟩ : ByteArray), 0)) := out_lit (Rat.divInt (0) 1) (by decide +kernel) (by decide +kernel)
  have E3 : Hid (out (makeR 1 0) = ((⟨#[]⟩ : ByteArray), (⟨#[]⟩ : ByteArray), 40)) := out_no (by decide +kernel)
  have E4 : Hid (out (addO (frac (⟨#[49]⟩ : ByteArray).data.toList (⟨#[50]⟩ : ByteArray).data.toList) (frac (⟨#[49]⟩ : ByteArray).data.toList (⟨#[51]⟩ : ByteArray).data.toList)) = ((⟨#[53]⟩ : ByteArray), (⟨#[54]⟩ : ByteArray), 0)) := out_lit (Rat.divInt (5) 6) (by decide +kernel) (by decide +kernel)
  have E5 : Hid (out (divO (frac (⟨#[49]⟩ : ByteArray).data.toList (⟨#[50]⟩ : ByteArray).data.toList) (frac (⟨#[45, 49]⟩ : ByteArray).data.toList (⟨#[52]⟩ : ByteArray).data.toList)) = ((⟨#[45, 50]⟩ : ByteArray), (⟨#[49]⟩ : ByteArray), 0)) := out_lit (Rat.divInt (-2) 1) (by decide +kernel) (by decide +kernel)
  have E6 : Hid (out (divO (frac (⟨#[49]⟩ : ByteArray).data.toList (⟨#[49]⟩ : ByteArray).data.toList) (frac (⟨#[48]⟩ : ByteArray).data.toList (⟨#[49]⟩ : ByteArray).data.toList)) = ((⟨#[]⟩ : ByteArray), (⟨#[]⟩ : ByteArray), 40)) := out_no (by decide +kernel)
  have E7 : Hid (out (roundO false (frac (⟨#[45, 49]⟩ : ByteArray).data.toList (⟨#[51]⟩ : ByteArray).data.toList) 2) = ((⟨#[45, 49, 55]⟩ : ByteArray), (⟨#[53, 48]⟩ : ByteArray), 0)) := out_lit (Rat.divInt (-17) 50) (by decide +kernel) (by decide +kernel)
  have E8 : Hid (out (roundO true (frac (⟨#[49]⟩ : ByteArray).data.toList (⟨#[51]⟩ : ByteArray).data.toList) 2) = ((⟨#[49, 55]⟩ : ByteArray), (⟨#[53, 48]⟩ : ByteArray), 0)) := out_lit (Rat.divInt (17) 50) (by decide +kernel) (by decide +kernel)
  have E9 : Hid (out (parseO (⟨#[45, 51, 47, 50]⟩ : ByteArray).data.toList) = ((⟨#[45, 51]⟩ : ByteArray), (⟨#[50]⟩ : ByteArray), 0)) := out_lit (Rat.divInt (-3) 2) (by decide +kernel) (by decide +kernel)
  have E10 : Hid (out (parseO (⟨#[54, 47, 52]⟩ : ByteArray).data.toList) = ((⟨#[]⟩ : ByteArray), (⟨#[]⟩ : ByteArray), 40)) := out_no (by decide +kernel)
  have E11 : Hid (((⟨#[45, 51, 47, 50]⟩ : ByteArray)).data.toList = printL (⟨#[45, 51]⟩ : ByteArray).data.toList (⟨#[50]⟩ : ByteArray).data.toList) := (by decide +kernel : ((⟨#[45, 51, 47, 50]⟩ : ByteArray)).data.toList = printL (⟨#[45, 51]⟩ : ByteArray).data.toList (⟨#[50]⟩ : ByteArray).data.toList)
  have E12 : Hid (cmpO (frac (⟨#[49]⟩ : ByteArray).data.toList (⟨#[51]⟩ : ByteArray).data.toList) (frac (⟨#[51, 51, 51, 51, 51]⟩ : ByteArray).data.toList (⟨#[49, 48, 48, 48, 48, 48]⟩ : ByteArray).data.toList) = 1) := (by decide +kernel : cmpO (frac (⟨#[49]⟩ : ByteArray).data.toList (⟨#[51]⟩ : ByteArray).data.toList) (frac (⟨#[51, 51, 51, 51, 51]⟩ : ByteArray).data.toList (⟨#[49, 48, 48, 48, 48, 48]⟩ : ByteArray).data.toList) = 1)
  have E13 : Hid (validR (⟨#[45, 51]⟩ : ByteArray).data.toList (⟨#[50]⟩ : ByteArray).data.toList = true) := (by decide +kernel : validR (⟨#[45, 51]⟩ : ByteArray).data.toList (⟨#[50]⟩ : ByteArray).data.toList = true)
  have E14 : Hid (validR (⟨#[]⟩ : ByteArray).data.toList (⟨#[]⟩ : ByteArray).data.toList = false) := (by decide +kernel : validR (⟨#[]⟩ : ByteArray).data.toList (⟨#[]⟩ : ByteArray).data.toList = false)
  have I6 : Hid (-9223372036854775808 ≤ (6 : Int) ∧ (6 : Int) ≤ 9223372036854775807) := by show _ ∧ _; decide
  have Im4 : Hid (-9223372036854775808 ≤ ((-4) : Int) ∧ ((-4) : Int) ≤ 9223372036854775807) := by show _ ∧ _; decide
  have I0 : Hid (-9223372036854775808 ≤ (0 : Int) ∧ (0 : Int) ≤ 9223372036854775807) := by show _ ∧ _; decide
  have Im5 : Hid (-9223372036854775808 ≤ ((-5) : Int) ∧ ((-5) : Int) ≤ 9223372036854775807) := by show _ ∧ _; decide
  have I1 : Hid (-9223372036854775808 ≤ (1 : Int) ∧ (1 : Int) ≤ 9223372036854775807) := by show _ ∧ _; decide
  have S1 : Hid (((⟨#[45, 51, 47, 50]⟩ : ByteArray)).size ≤ 1000) := by show _ ≤ _; decide
  have S2 : Hid (((⟨#[54, 47, 52]⟩ : ByteArray)).size ≤ 1000) := by show _ ≤ _; decide
  go_enter Tryz.func11, Tryz.ntmps11
  go_wp2_with fail
  refine (fof_any 6 (-4) (⟨#[45, 51]⟩ : ByteArray) (⟨#[50]⟩ : ByteArray) 0 w (HB0.tab HT) I6 Im4 E1).mono ?_
  rintro e w1 ⟨rfl, hb1⟩
  have hc1 : Since w w1 := hb1
  have HB1 : Since w w1 := HB0.next hc1.out
  clear hb1 hc1 
  go_wp2_with fail
  have hA2 : Since w1 (w1.alloc (.cells #[.string (⟨#[45, 51]⟩ : ByteArray), .string (⟨#[50]⟩ : ByteArray)] 26)) := (Below.refl _ w1).alloc (Nat.le_refl _) _
  refine (fof_any 0 (-5) (⟨#[48]⟩ : ByteArray) (⟨#[49]⟩ : ByteArray) 0 (w1.alloc (.cells #[.string (⟨#[45, 51]⟩ : ByteArray), .string (⟨#[50]⟩ : ByteArray)] 26)) (HB1.next hA2.out |>.tab HT) I0 Im5 E2).mono ?_
  rintro e w2 ⟨rfl, hb2⟩
  have hc2 : Since w1 w2 := hA2.next hb2.out
  have HB2 : Since w w2 := HB1.next hc2.out
  have Fa2 : Hid (FB w2 w1.heap.size (⟨#[45, 51]⟩ : ByteArray) (⟨#[50]⟩ : ByteArray)) := FB.held hb2
  clear hb2 hc2  hA2 HB1
  go_wp2_with fail
  have hA3 : Since w2 (w2.alloc (.cells #[.string (⟨#[48]⟩ : ByteArray), .string (⟨#[49]⟩ : ByteArray)] 26)) := (Below.refl _ w2).alloc (Nat.le_refl _) _
  refine (fof_any 1 0 (⟨#[]⟩ : ByteArray) (⟨#[]⟩ : ByteArray) 40 (w2.alloc (.cells #[.string (⟨#[48]⟩ : ByteArray), .string (⟨#[49]⟩ : ByteArray)] 26)) (HB2.next hA3.out |>.tab HT) I1 I0 E3).mono ?_
  rintro e w3 ⟨rfl, hb3⟩
  have hc3 : Since w2 w3 := hA3.next hb3.out
  have HB3 : Since w w3 := HB2.next hc3.out
  have Fa3 : Hid (FB w3 w1.heap.size (⟨#[45, 51]⟩ : ByteArray) (⟨#[50]⟩ : ByteArray)) := Fa2.out.below hc3.out Fa2.out.lt
  have Fb3 : Hid (FB w3 w2.heap.size (⟨#[48]⟩ : ByteArray) (⟨#[49]⟩ : ByteArray)) := FB.held hb3
  clear hb3 hc3 Fa2 hA3 HB2
  go_wp2_with fail
  have hA4 : Since w3 (w3.alloc (.cells #[.string (⟨#[]⟩ : ByteArray), .string (⟨#[]⟩ : ByteArray)] 26)) := (Below.refl _ w3).alloc (Nat.le_refl _) _
  refine (is_any (⟨#[49]⟩ : ByteArray) (⟨#[50]⟩ : ByteArray) (w3.alloc (.cells #[.string (⟨#[]⟩ : ByteArray), .string (⟨#[]⟩ : ByteArray)] 26))).mono ?_
  rintro e w4 ⟨rfl, hb4⟩
  have hc4 : Since w3 w4 := hA4.next hb4.out
  have HB4 : Since w w4 := HB3.next hc4.out
  have Fa4 : Hid (FB w4 w1.heap.size (⟨#[45, 51]⟩ : ByteArray) (⟨#[50]⟩ : ByteArray)) := Fa3.out.below hc4.out Fa3.out.lt
  have Fb4 : Hid (FB w4 w2.heap.size (⟨#[48]⟩ : ByteArray) (⟨#[49]⟩ : ByteArray)) := Fb3.out.below hc4.out Fb3.out.lt
  have Fq4 : Hid (FB w4 w3.heap.size (⟨#[]⟩ : ByteArray) (⟨#[]⟩ : ByteArray)) := FB.held hb4
  clear hb4 hc4 Fa3 Fb3 hA4 HB3
  clear Fq4
  go_wp2_with fail
  refine (is_any (⟨#[49]⟩ : ByteArray) (⟨#[51]⟩ : ByteArray) w4).mono ?_
  rintro e w5 ⟨rfl, hb5⟩
  have hc5 : Since w4 w5 := hb5
  have HB5 : Since w w5 := HB4.next hc5.out
  have Fa5 : Hid (FB w5 w1.heap.size (⟨#[45, 51]⟩ : ByteArray) (⟨#[50]⟩ : ByteArray)) := Fa4.out.below hc5.out Fa4.out.lt
  have Fb5 : Hid (FB w5 w2.heap.size (⟨#[48]⟩ : ByteArray) (⟨#[49]⟩ : ByteArray)) := Fb4.out.below hc5.out Fb4.out.lt
  clear hb5 hc5 Fa4 Fb4 HB4
  go_wp2_with fail
  refine (fadd_any (⟨#[49]⟩ : ByteArray) (⟨#[50]⟩ : ByteArray) (⟨#[49]⟩ : ByteArray) (⟨#[51]⟩ : ByteArray) (⟨#[53]⟩ : ByteArray) (⟨#[54]⟩ : ByteArray) 0 w5 (HB5.tab HT) E4).mono ?_
  rintro e w6 ⟨rfl, hb6⟩
  have hc6 : Since w5 w6 := hb6
  have HB6 : Since w w6 := HB5.next hc6.out
  have Fa6 : Hid (FB w6 w1.heap.size (⟨#[45, 51]⟩ : ByteArray) (⟨#[50]⟩ : ByteArray)) := Fa5.out.below hc6.out Fa5.out.lt
  have Fb6 : Hid (FB w6 w2.heap.size (⟨#[48]⟩ : ByteArray) (⟨#[49]⟩ : ByteArray)) := Fb5.out.below hc6.out Fb5.out.lt
  clear hb6 hc6 Fa5 Fb5 HB5
  go_wp2_with fail
  have hA7 : Since w6 (w6.alloc (.cells #[.string (⟨#[53]⟩ : ByteArray), .string (⟨#[54]⟩ : ByteArray)] 26)) := (Below.refl _ w6).alloc (Nat.le_refl _) _
  refine (is_any (⟨#[49]⟩ : ByteArray) (⟨#[50]⟩ : ByteArray) (w6.alloc (.cells #[.string (⟨#[53]⟩ : ByteArray), .string (⟨#[54]⟩ : ByteArray)] 26))).mono ?_
  rintro e w7 ⟨rfl, hb7⟩
  have hc7 : Since w6 w7 := hA7.next hb7.out
  have HB7 : Since w w7 := HB6.next hc7.out
  have Fa7 : Hid (FB w7 w1.heap.size (⟨#[45, 51]⟩ : ByteArray) (⟨#[50]⟩ : ByteArray)) := Fa6.out.below hc7.out Fa6.out.lt
  have Fb7 : Hid (FB w7 w2.heap.size (⟨#[48]⟩ : ByteArray) (⟨#[49]⟩ : ByteArray)) := Fb6.out.below hc7.out Fb6.out.lt
  have Fc7 : Hid (FB w7 w6.heap.size (⟨#[53]⟩ : ByteArray) (⟨#[54]⟩ : ByteArray)) := FB.held hb7
  clear hb7 hc7 Fa6 Fb6 hA7 HB6
  go_wp2_with fail
  refine (is_any (⟨#[45, 49]⟩ : ByteArray) (⟨#[52]⟩ : ByteArray) w7).mono ?_
  rintro e w8 ⟨rfl, hb8⟩
  have hc8 : Since w7 w8 := hb8
  have HB8 : Since w w8 := HB7.next hc8.out
  have Fa8 : Hid (FB w8 w1.heap.size (⟨#[45, 51]⟩ : ByteArray) (⟨#[50]⟩ : ByteArray)) := Fa7.out.below hc8.out Fa7.out.lt
  have Fb8 : Hid (FB w8 w2.heap.size (⟨#[48]⟩ : ByteArray) (⟨#[49]⟩ : ByteArray)) := Fb7.out.below hc8.out Fb7.out.lt
  have Fc8 : Hid (FB w8 w6.heap.size (⟨#[53]⟩ : ByteArray) (⟨#[54]⟩ : ByteArray)) := Fc7.out.below hc8.out Fc7.out.lt
  clear hb8 hc8 Fa7 Fb7 Fc7 HB7
  go_wp2_with fail
  refine (fdiv_any (⟨#[49]⟩ : ByteArray) (⟨#[50]⟩ : ByteArray) (⟨#[45, 49]⟩ : ByteArray) (⟨#[52]⟩ : ByteArray) (⟨#[45, 50]⟩ : ByteArray) (⟨#[49]⟩ : ByteArray) 0 w8 (HB8.tab HT) E5).mono ?_
  rintro e w9 ⟨rfl, hb9⟩
  have hc9 : Since w8 w9 := hb9
  have HB9 : Since w w9 := HB8.next hc9.out
  have Fa9 : Hid (FB w9 w1.heap.size (⟨#[45, 51]⟩ : ByteArray) (⟨#[50]⟩ : ByteArray)) := Fa8.out.below hc9.out Fa8.out.lt
  have Fb9 : Hid (FB w9 w2.heap.size (⟨#[48]⟩ : ByteArray) (⟨#[49]⟩ : ByteArray)) := Fb8.out.below hc9.out Fb8.out.lt
  have Fc9 : Hid (FB w9 w6.heap.size (⟨#[53]⟩ : ByteArray) (⟨#[54]⟩ : ByteArray)) := Fc8.out.below hc9.out Fc8.out.lt
  clear hb9 hc9 Fa8 Fb8 Fc8 HB8
  go_wp2_with fail
  have hA : Since w9 (w9.alloc (.cells #[.string (⟨#[45, 50]⟩ : ByteArray), .string (⟨#[49]⟩ : ByteArray)] 26)) := (Below.refl _ w9).alloc (Nat.le_refl _) _
  have HFd : Hid (FB (w9.alloc (.cells #[.string (⟨#[45, 50]⟩ : ByteArray), .string (⟨#[49]⟩ : ByteArray)] 26)) w9.heap.size (⟨#[45, 50]⟩ : ByteArray) (⟨#[49]⟩ : ByteArray)) := FB.new _ _ _
  have Ga : Hid (FB (w9.alloc (.cells #[.string (⟨#[45, 50]⟩ : ByteArray), .string (⟨#[49]⟩ : ByteArray)] 26)) w1.heap.size (⟨#[45, 51]⟩ : ByteArray) (⟨#[50]⟩ : ByteArray)) := Fa9.out.below hA.out Fa9.out.lt
  have Gb : Hid (FB (w9.alloc (.cells #[.string (⟨#[45, 50]⟩ : ByteArray), .string (⟨#[49]⟩ : ByteArray)] 26)) w2.heap.size (⟨#[48]⟩ : ByteArray) (⟨#[49]⟩ : ByteArray)) := Fb9.out.below hA.out Fb9.out.lt
  have Gc : Hid (FB (w9.alloc (.cells #[.string (⟨#[45, 50]⟩ : ByteArray), .string (⟨#[49]⟩ : ByteArray)] 26)) w6.heap.size (⟨#[53]⟩ : ByteArray) (⟨#[54]⟩ : ByteArray)) := Fc9.out.below hA.out Fc9.out.lt
  have HBa : Since w (w9.alloc (.cells #[.string (⟨#[45, 50]⟩ : ByteArray), .string (⟨#[49]⟩ : ByteArray)] 26)) := HB9.next hA.out
  clear hA HB9 Fa9 Fb9 Fc9
  obtain ⟨kd, hkd⟩ : ∃ k, k = w9.heap.size := ⟨_, rfl⟩
  rw [← hkd] at HFd ⊢
  clear hkd
  generalize (w9.alloc (.cells #[.string (⟨#[45, 50]⟩ : ByteArray), .string (⟨#[49]⟩ : ByteArray)] 26)) = W1 at HFd Ga Gb Gc HBa ⊢
  have HTa : Hid (Tab W1) := HBa.tab HT
  have HSall : Hid (∀ W', Since W1 W' → Since W1 W' ∧ W'.cell? ⟨w2.heap.size, 0, none⟩ = some (.string (⟨#[48]⟩ : ByteArray)) ∧ W'.cell? ⟨w2.heap.size, 1, none⟩ = some (.string (⟨#[49]⟩ : ByteArray))) := by
    intro W' h
    have g := Gb.out.below h.out Gb.out.lt
    exact ⟨h, g.c0, g.c1⟩
  have HPd := HSall.out W1.drew (Since.refl W1).out.drew
  go_cut [11, 12] from 22 (fun s11 s12 W => ∃ b3 : Nat, s11 = .pointer (some ⟨b3, 0, none⟩) ∧ s12 = .int .i64 40 ∧ Hid (Since W1 W))
  case first =>
    go_region_held3 (fun W' => Since W1 W' ∧ W'.cell? ⟨w2.heap.size, 0, none⟩ = some (.string (⟨#[48]⟩ : ByteArray)) ∧ W'.cell? ⟨w2.heap.size, 1, none⟩ = some (.string (⟨#[49]⟩ : ByteArray)))
      (first | assumption | exact HSall.out _ (sk_next (by assumption) HB2) | exact HSall.out _ (sk_alloc (by assumption) _) | exact HSall.out _ (sk_realloc (by assumption) (by first | exact Nat.le_refl _ | assumption) _) | exact HSall.out _ (sk_put (by assumption) (by first | exact Nat.le_refl _ | assumption) _ _))
      (first
        | (go_at_call 16; refine (is_any (⟨#[49]⟩ : ByteArray) (⟨#[49]⟩ : ByteArray) _).mono ?_; rintro e W2 ⟨rfl, HB2⟩; have hz2 := sk_size (by assumption) HB2; (first | have HK2 := FB.held HB2 | have HK2 := FB.heldd HB2 | skip); (try have k0 := HK2.c0); (try have k1 := HK2.c1); (try have k2 := HK2.f0); (try have k3 := HK2.f1))
        | (go_at_call 32; refine (fdiv_any (⟨#[49]⟩ : ByteArray) (⟨#[49]⟩ : ByteArray) (⟨#[48]⟩ : ByteArray) (⟨#[49]⟩ : ByteArray) (⟨#[]⟩ : ByteArray) (⟨#[]⟩ : ByteArray) 40 _ (sk_tab HTa (by assumption)) E6).mono ?_; rintro e W3 ⟨rfl, HB2⟩; have hz3 := sk_size (by assumption) HB2; (first | have HK3 := FB.held HB2 | have HK3 := FB.heldd HB2 | have HK3 := FB.below HK2 HB2.out HK2.lt | skip); (try have k4 := HK3.c0); (try have k5 := HK3.c1); (try have k6 := HK3.f0); (try have k7 := HK3.f1)))
    all_goals
      (go_wp2_with fail
       go_meet
       case rel => exact ⟨_, rfl, rfl, sk_at (by assumption)⟩)
  case rest =>
    obtain ⟨b3, h11, h12, HC⟩ := hcut
    subst h11 h12
    have Pa : Hid (FB wc w1.heap.size (⟨#[45, 51]⟩ : ByteArray) (⟨#[50]⟩ : ByteArray)) := Ga.out.below HC.out Ga.out.lt
    have Pb : Hid (FB wc w2.heap.size (⟨#[48]⟩ : ByteArray) (⟨#[49]⟩ : ByteArray)) := Gb.out.below HC.out Gb.out.lt
    have Pc : Hid (FB wc w6.heap.size (⟨#[53]⟩ : ByteArray) (⟨#[54]⟩ : ByteArray)) := Gc.out.below HC.out Gc.out.lt
    have Pd : Hid (FB wc kd (⟨#[45, 50]⟩ : ByteArray) (⟨#[49]⟩ : ByteArray)) := HFd.out.below HC.out HFd.out.lt
    have HBc : Since w wc := HBa.next HC.out
    clear HC HBa HTa HSall HPd HFd Ga Gb Gc
    go_wp2_with fail
    refine (is_any (⟨#[45, 49]⟩ : ByteArray) (⟨#[51]⟩ : ByteArray) wc).mono ?_
    rintro e w101 ⟨rfl, hb101⟩
    have hc101 : Since wc w101 := hb101
    have HB101 : Since w w101 := HBc.next hc101.out
    have Fa101 : Hid (FB w101 w1.heap.size (⟨#[45, 51]⟩ : ByteArray) (⟨#[50]⟩ : ByteArray)) := Pa.out.below hc101.out Pa.out.lt
    have Fb101 : Hid (FB w101 w2.heap.size (⟨#[48]⟩ : ByteArray) (⟨#[49]⟩ : ByteArray)) := Pb.out.below hc101.out Pb.out.lt
    have Fc101 : Hid (FB w101 w6.heap.size (⟨#[53]⟩ : ByteArray) (⟨#[54]⟩ : ByteArray)) := Pc.out.below hc101.out Pc.out.lt
    have Fd101 : Hid (FB w101 kd (⟨#[45, 50]⟩ : ByteArray) (⟨#[49]⟩ : ByteArray)) := Pd.out.below hc101.out Pd.out.lt
    clear hb101 hc101 Pa Pb Pc Pd HBc
    go_wp2_with fail
    refine (fdown_any (⟨#[45, 49]⟩ : ByteArray) (⟨#[51]⟩ : ByteArray) (⟨#[45, 49, 55]⟩ : ByteArray) (⟨#[53, 48]⟩ : ByteArray) 2 0 w101 (HB101.tab HT) E7).mono ?_
    rintro e w102 ⟨rfl, hb102⟩
    have hc102 : Since w101 w102 := hb102
    have HB102 : Since w w102 := HB101.next hc102.out
    have Fa102 : Hid (FB w102 w1.heap.size (⟨#[45, 51]⟩ : ByteArray) (⟨#[50]⟩ : ByteArray)) := Fa101.out.below hc102.out Fa101.out.lt
    have Fb102 : Hid (FB w102 w2.heap.size (⟨#[48]⟩ : ByteArray) (⟨#[49]⟩ : ByteArray)) := Fb101.out.below hc102.out Fb101.out.lt
    have Fc102 : Hid (FB w102 w6.heap.size (⟨#[53]⟩ : ByteArray) (⟨#[54]⟩ : ByteArray)) := Fc101.out.below hc102.out Fc101.out.lt
    have Fd102 : Hid (FB w102 kd (⟨#[45, 50]⟩ : ByteArray) (⟨#[49]⟩ : ByteArray)) := Fd101.out.below hc102.out Fd101.out.lt
    clear hb102 hc102 Fa101 Fb101 Fc101 Fd101 HB101
    go_wp2_with fail
    have hA103 : Since w102 (w102.alloc (.cells #[.string (⟨#[45, 49, 55]⟩ : ByteArray), .string (⟨#[53, 48]⟩ : ByteArray)] 26)) := (Below.refl _ w102).alloc (Nat.le_refl _) _
    refine (is_any (⟨#[49]⟩ : ByteArray) (⟨#[51]⟩ : ByteArray) (w102.alloc (.cells #[.string (⟨#[45, 49, 55]⟩ : ByteArray), .string (⟨#[53, 48]⟩ : ByteArray)] 26))).mono ?_
    rintro e w103 ⟨rfl, hb103⟩
    have hc103 : Since w102 w103 := hA103.next hb103.out
    have HB103 : Since w w103 := HB102.next hc103.out
    have Fa103 : Hid (FB w103 w1.heap.size (⟨#[45, 51]⟩ : ByteArray) (⟨#[50]⟩ : ByteArray)) := Fa102.out.below hc103.out Fa102.out.lt
    have Fb103 : Hid (FB w103 w2.heap.size (⟨#[48]⟩ : ByteArray) (⟨#[49]⟩ : ByteArray)) := Fb102.out.below hc103.out Fb102.out.lt
    have Fc103 : Hid (FB w103 w6.heap.size (⟨#[53]⟩ : ByteArray) (⟨#[54]⟩ : ByteArray)) := Fc102.out.below hc103.out Fc102.out.lt
    have Fd103 : Hid (FB w103 kd (⟨#[45, 50]⟩ : ByteArray) (⟨#[49]⟩ : ByteArray)) := Fd102.out.below hc103.out Fd102.out.lt
    have Fk103 : Hid (FB w103 w102.heap.size (⟨#[45, 49, 55]⟩ : ByteArray) (⟨#[53, 48]⟩ : ByteArray)) := FB.held hb103
    clear hb103 hc103 Fa102 Fb102 Fc102 Fd102 hA103 HB102
    go_wp2_with fail
    refine (fup_any (⟨#[49]⟩ : ByteArray) (⟨#[51]⟩ : ByteArray) (⟨#[49, 55]⟩ : ByteArray) (⟨#[53, 48]⟩ : ByteArray) 2 0 w103 (HB103.tab HT) E8).mono ?_
    rintro e w104 ⟨rfl, hb104⟩
    have hc104 : Since w103 w104 := hb104
    have HB104 : Since w w104 := HB103.next hc104.out
    have Fa104 : Hid (FB w104 w1.heap.size (⟨#[45, 51]⟩ : ByteArray) (⟨#[50]⟩ : ByteArray)) := Fa103.out.below hc104.out Fa103.out.lt
    have Fb104 : Hid (FB w104 w2.heap.size (⟨#[48]⟩ : ByteArray) (⟨#[49]⟩ : ByteArray)) := Fb103.out.below hc104.out Fb103.out.lt
    have Fc104 : Hid (FB w104 w6.heap.size (⟨#[53]⟩ : ByteArray) (⟨#[54]⟩ : ByteArray)) := Fc103.out.below hc104.out Fc103.out.lt
    have Fd104 : Hid (FB w104 kd (⟨#[45, 50]⟩ : ByteArray) (⟨#[49]⟩ : ByteArray)) := Fd103.out.below hc104.out Fd103.out.lt
    have Fk104 : Hid (FB w104 w102.heap.size (⟨#[45, 49, 55]⟩ : ByteArray) (⟨#[53, 48]⟩ : ByteArray)) := Fk103.out.below hc104.out Fk103.out.lt
    clear hb104 hc104 Fa103 Fb103 Fc103 Fd103 Fk103 HB103
    go_wp2_with fail
    have hA105 : Since w104 (w104.alloc (.cells #[.string (⟨#[49, 55]⟩ : ByteArray), .string (⟨#[53, 48]⟩ : ByteArray)] 26)) := (Below.refl _ w104).alloc (Nat.le_refl _) _
    refine (fparse_any (⟨#[45, 51, 47, 50]⟩ : ByteArray) (⟨#[45, 51]⟩ : ByteArray) (⟨#[50]⟩ : ByteArray) 0 (w104.alloc (.cells #[.string (⟨#[49, 55]⟩ : ByteArray), .string (⟨#[53, 48]⟩ : ByteArray)] 26)) (HB104.next hA105.out |>.tab HT) (Lens.since HM (HB104.next hA105.out)) S1 E9).mono ?_
    rintro e w105 ⟨rfl, hb105⟩
    have hc105 : Since w104 w105 := hA105.next hb105.out
    have HB105 : Since w w105 := HB104.next hc105.out
    have Fa105 : Hid (FB w105 w1.heap.size (⟨#[45, 51]⟩ : ByteArray) (⟨#[50]⟩ : ByteArray)) := Fa104.out.below hc105.out Fa104.out.lt
    have Fb105 : Hid (FB w105 w2.heap.size (⟨#[48]⟩ : ByteArray) (⟨#[49]⟩ : ByteArray)) := Fb104.out.below hc105.out Fb104.out.lt
    have Fc105 : Hid (FB w105 w6.heap.size (⟨#[53]⟩ : ByteArray) (⟨#[54]⟩ : ByteArray)) := Fc104.out.below hc105.out Fc104.out.lt
    have Fd105 : Hid (FB w105 kd (⟨#[45, 50]⟩ : ByteArray) (⟨#[49]⟩ : ByteArray)) := Fd104.out.below hc105.out Fd104.out.lt
    have Fk105 : Hid (FB w105 w102.heap.size (⟨#[45, 49, 55]⟩ : ByteArray) (⟨#[53, 48]⟩ : ByteArray)) := Fk104.out.below hc105.out Fk104.out.lt
    have Fm105 : Hid (FB w105 w104.heap.size (⟨#[49, 55]⟩ : ByteArray) (⟨#[53, 48]⟩ : ByteArray)) := FB.held hb105
    clear hb105 hc105 Fa104 Fb104 Fc104 Fd104 Fk104 hA105 HB104
    go_wp2_with fail
    have hA106 : Since w105 (w105.alloc (.cells #[.string (⟨#[45, 51]⟩ : ByteArray), .string (⟨#[50]⟩ : ByteArray)] 26)) := (Below.refl _ w105).alloc (Nat.le_refl _) _
    refine (fparse_any (⟨#[54, 47, 52]⟩ : ByteArray) (⟨#[]⟩ : ByteArray) (⟨#[]⟩ : ByteArray) 40 (w105.alloc (.cells #[.string (⟨#[45, 51]⟩ : ByteArray), .string (⟨#[50]⟩ : ByteArray)] 26)) (HB105.next hA106.out |>.tab HT) (Lens.since HM (HB105.next hA106.out)) S2 E10).mono ?_
    rintro e w106 ⟨rfl, hb106⟩
    have hc106 : Since w105 w106 := hA106.next hb106.out
    have HB106 : Since w w106 := HB105.next hc106.out
    have Fa106 : Hid (FB w106 w1.heap.size (⟨#[45, 51]⟩ : ByteArray) (⟨#[50]⟩ : ByteArray)) := Fa105.out.below hc106.out Fa105.out.lt
    have Fb106 : Hid (FB w106 w2.heap.size (⟨#[48]⟩ : ByteArray) (⟨#[49]⟩ : ByteArray)) := Fb105.out.below hc106.out Fb105.out.lt
    have Fc106 : Hid (FB w106 w6.heap.size (⟨#[53]⟩ : ByteArray) (⟨#[54]⟩ : ByteArray)) := Fc105.out.below hc106.out Fc105.out.lt
    have Fd106 : Hid (FB w106 kd (⟨#[45, 50]⟩ : ByteArray) (⟨#[49]⟩ : ByteArray)) := Fd105.out.below hc106.out Fd105.out.lt
    have Fk106 : Hid (FB w106 w102.heap.size (⟨#[45, 49, 55]⟩ : ByteArray) (⟨#[53, 48]⟩ : ByteArray)) := Fk105.out.below hc106.out Fk105.out.lt
    have Fm106 : Hid (FB w106 w104.heap.size (⟨#[49, 55]⟩ : ByteArray) (⟨#[53, 48]⟩ : ByteArray)) := Fm105.out.below hc106.out Fm105.out.lt
    have Fo106 : Hid (FB w106 w105.heap.size (⟨#[45, 51]⟩ : ByteArray) (⟨#[50]⟩ : ByteArray)) := FB.held hb106
    clear hb106 hc106 Fa105 Fb105 Fc105 Fd105 Fk105 Fm105 hA106 HB105
    go_wp2_with fail
    have hA : Since w106 (w106.alloc (.cells #[.string (⟨#[]⟩ : ByteArray), .string (⟨#[]⟩ : ByteArray)] 26)) := (Below.refl _ w106).alloc (Nat.le_refl _) _
    have Ga : Hid (FB (w106.alloc (.cells #[.string (⟨#[]⟩ : ByteArray), .string (⟨#[]⟩ : ByteArray)] 26)) w1.heap.size (⟨#[45, 51]⟩ : ByteArray) (⟨#[50]⟩ : ByteArray)) := Fa106.out.below hA.out Fa106.out.lt
    have Gb : Hid (FB (w106.alloc (.cells #[.string (⟨#[]⟩ : ByteArray), .string (⟨#[]⟩ : ByteArray)] 26)) w2.heap.size (⟨#[48]⟩ : ByteArray) (⟨#[49]⟩ : ByteArray)) := Fb106.out.below hA.out Fb106.out.lt
    have Gc : Hid (FB (w106.alloc (.cells #[.string (⟨#[]⟩ : ByteArray), .string (⟨#[]⟩ : ByteArray)] 26)) w6.heap.size (⟨#[53]⟩ : ByteArray) (⟨#[54]⟩ : ByteArray)) := Fc106.out.below hA.out Fc106.out.lt
    have Gd : Hid (FB (w106.alloc (.cells #[.string (⟨#[]⟩ : ByteArray), .string (⟨#[]⟩ : ByteArray)] 26)) kd (⟨#[45, 50]⟩ : ByteArray) (⟨#[49]⟩ : ByteArray)) := Fd106.out.below hA.out Fd106.out.lt
    have Gk : Hid (FB (w106.alloc (.cells #[.string (⟨#[]⟩ : ByteArray), .string (⟨#[]⟩ : ByteArray)] 26)) w102.heap.size (⟨#[45, 49, 55]⟩ : ByteArray) (⟨#[53, 48]⟩ : ByteArray)) := Fk106.out.below hA.out Fk106.out.lt
    have Gm : Hid (FB (w106.alloc (.cells #[.string (⟨#[]⟩ : ByteArray), .string (⟨#[]⟩ : ByteArray)] 26)) w104.heap.size (⟨#[49, 55]⟩ : ByteArray) (⟨#[53, 48]⟩ : ByteArray)) := Fm106.out.below hA.out Fm106.out.lt
    have Go : Hid (FB (w106.alloc (.cells #[.string (⟨#[]⟩ : ByteArray), .string (⟨#[]⟩ : ByteArray)] 26)) w105.heap.size (⟨#[45, 51]⟩ : ByteArray) (⟨#[50]⟩ : ByteArray)) := Fo106.out.below hA.out Fo106.out.lt
    have HBa : Since w (w106.alloc (.cells #[.string (⟨#[]⟩ : ByteArray), .string (⟨#[]⟩ : ByteArray)] 26)) := HB106.next hA.out
    clear hA HB106 Fa106 Fb106 Fc106 Fd106 Fk106 Fm106 Fo106
    generalize (w106.alloc (.cells #[.string (⟨#[]⟩ : ByteArray), .string (⟨#[]⟩ : ByteArray)] 26)) = W9 at Ga Gb Gc Gd Gk Gm Go HBa ⊢
    have HTa : Hid (Tab W9) := HBa.tab HT
    have HSall : Hid (∀ W', Since W9 W' → Since W9 W' ∧ W'.cell? ⟨w1.heap.size, 0, none⟩ = some (.string (⟨#[45, 51]⟩ : ByteArray)) ∧ W'.cell? ⟨w1.heap.size, 1, none⟩ = some (.string (⟨#[50]⟩ : ByteArray)) ∧ W'.cell? ⟨w2.heap.size, 0, none⟩ = some (.string (⟨#[48]⟩ : ByteArray)) ∧ W'.cell? ⟨w2.heap.size, 1, none⟩ = some (.string (⟨#[49]⟩ : ByteArray)) ∧ W'.cell? ⟨w6.heap.size, 0, none⟩ = some (.string (⟨#[53]⟩ : ByteArray)) ∧ W'.cell? ⟨w6.heap.size, 1, none⟩ = some (.string (⟨#[54]⟩ : ByteArray)) ∧ W'.cell? ⟨kd, 0, none⟩ = some (.string (⟨#[45, 50]⟩ : ByteArray)) ∧ W'.cell? ⟨kd, 1, none⟩ = some (.string (⟨#[49]⟩ : ByteArray)) ∧ W'.cell? ⟨w102.heap.size, 0, none⟩ = some (.string (⟨#[45, 49, 55]⟩ : ByteArray)) ∧ W'.cell? ⟨w102.heap.size, 1, none⟩ = some (.string (⟨#[53, 48]⟩ : ByteArray)) ∧ W'.cell? ⟨w104.heap.size, 0, none⟩ = some (.string (⟨#[49, 55]⟩ : ByteArray)) ∧ W'.cell? ⟨w104.heap.size, 1, none⟩ = some (.string (⟨#[53, 48]⟩ : ByteArray)) ∧ W'.cell? ⟨w105.heap.size, 0, none⟩ = some (.string (⟨#[45, 51]⟩ : ByteArray)) ∧ W'.cell? ⟨w105.heap.size, 1, none⟩ = some (.string (⟨#[50]⟩ : ByteArray))) := by
      intro W' h
      have ga := Ga.out.below h.out Ga.out.lt
      have gb := Gb.out.below h.out Gb.out.lt
      have gc := Gc.out.below h.out Gc.out.lt
      have gd := Gd.out.below h.out Gd.out.lt
      have gk := Gk.out.below h.out Gk.out.lt
      have gm := Gm.out.below h.out Gm.out.lt
      have go := Go.out.below h.out Go.out.lt
      exact ⟨h, ga.c0, ga.c1, gb.c0, gb.c1, gc.c0, gc.c1, gd.c0, gd.c1, gk.c0, gk.c1, gm.c0, gm.c1, go.c0, go.c1⟩
    have HPd := HSall.out W9.drew (Since.refl W9).out.drew
    go_region_held3 (fun W' => Since W9 W' ∧ W'.cell? ⟨w1.heap.size, 0, none⟩ = some (.string (⟨#[45, 51]⟩ : ByteArray)) ∧ W'.cell? ⟨w1.heap.size, 1, none⟩ = some (.string (⟨#[50]⟩ : ByteArray)) ∧ W'.cell? ⟨w2.heap.size, 0, none⟩ = some (.string (⟨#[48]⟩ : ByteArray)) ∧ W'.cell? ⟨w2.heap.size, 1, none⟩ = some (.string (⟨#[49]⟩ : ByteArray)) ∧ W'.cell? ⟨w6.heap.size, 0, none⟩ = some (.string (⟨#[53]⟩ : ByteArray)) ∧ W'.cell? ⟨w6.heap.size, 1, none⟩ = some (.string (⟨#[54]⟩ : ByteArray)) ∧ W'.cell? ⟨kd, 0, none⟩ = some (.string (⟨#[45, 50]⟩ : ByteArray)) ∧ W'.cell? ⟨kd, 1, none⟩ = some (.string (⟨#[49]⟩ : ByteArray)) ∧ W'.cell? ⟨w102.heap.size, 0, none⟩ = some (.string (⟨#[45, 49, 55]⟩ : ByteArray)) ∧ W'.cell? ⟨w102.heap.size, 1, none⟩ = some (.string (⟨#[53, 48]⟩ : ByteArray)) ∧ W'.cell? ⟨w104.heap.size, 0, none⟩ = some (.string (⟨#[49, 55]⟩ : ByteArray)) ∧ W'.cell? ⟨w104.heap.size, 1, none⟩ = some (.string (⟨#[53, 48]⟩ : ByteArray)) ∧ W'.cell? ⟨w105.heap.size, 0, none⟩ = some (.string (⟨#[45, 51]⟩ : ByteArray)) ∧ W'.cell? ⟨w105.heap.size, 1, none⟩ = some (.string (⟨#[50]⟩ : ByteArray)))
      (first | assumption | exact HSall.out _ (sk_next (by assumption) HB2))
      (first
        | (go_at_call 16; refine (is_any _ _ _).mono ?_; rintro e W2 ⟨rfl, HB2⟩)
        | (go_at_call 24; refine (fprint_any (⟨#[45, 51]⟩ : ByteArray) (⟨#[50]⟩ : ByteArray) (⟨#[45, 51, 47, 50]⟩ : ByteArray) _ (sk_tab HTa (by assumption)) E11).mono ?_; rintro e W2 ⟨rfl, HB2⟩)
        | (go_at_call 14; refine (fcmp_any (⟨#[49]⟩ : ByteArray) (⟨#[51]⟩ : ByteArray) (⟨#[51, 51, 51, 51, 51]⟩ : ByteArray) (⟨#[49, 48, 48, 48, 48, 48]⟩ : ByteArray) 1 _ (sk_tab HTa (by assumption)) E12).mono ?_; rintro e W2 ⟨rfl, HB2⟩)
        | (go_at_call 27; with_reducible refine Calls.mono (fvalid_to (⟨#[45, 51]⟩ : ByteArray) (⟨#[50]⟩ : ByteArray) true _ (sk_tab HTa (by assumption)) E13) ?_; rintro e W2 ⟨rfl, HB2⟩)
        | (go_at_call 27; refine (fvalid_to (⟨#[]⟩ : ByteArray) (⟨#[]⟩ : ByteArray) false _ (sk_tab HTa (by assumption)) E14).mono ?_; rintro e W2 ⟨rfl, HB2⟩))
    go_wp2
    go_ret
    exact ⟨rfl, (HBa.next (sk_at (by assumption) : Since W9 _).out).out⟩

end Go.Proofs.Tryz
