/- IntegerMatchesReference returns true: all functions agree with the reference. -/
import Derived.Test.YtdjnkaeggnkgeaaGreatDoorRD
import Derived.Test.YtdjnkaeggnkgeaaGreatDoorZed2
namespace Go.Proofs.Tryz
open Go.RowKit Go.Shelf Go.Proofs.Dt

/-- One of six. -/
def pick6 (a b c d e f : ByteArray) : Nat → ByteArray
  | 0 => a
  | 1 => b
  | 2 => c
  | 3 => d
  | 4 => e
  | _ => f
theorem some_pair (p : List UInt8 × Int) : ∃ (r : ByteArray) (c : Int), p = (r.data.toList, c) := ⟨⟨p.1.toArray⟩, p.2, rfl⟩
theorem some_three (p : List UInt8 × List UInt8 × Int) : ∃ (r s : ByteArray) (c : Int), p = (r.data.toList, s.data.toList, c) := ⟨⟨p.1.toArray⟩, ⟨p.2.1.toArray⟩, p.2.2, rfl⟩
theorem since_mk {P : Ending → Prop} {w0 w : World} (hB : Since w0 w) {e : Ending} {w' : World} (h : P e ∧ Below w.heap.size w w') : P e ∧ Since w0 w' := ⟨h.1, hB.next h.2⟩

set_option maxHeartbeats 2000000 in
set_option maxRecDepth 100000 in
theorem matches_any (a b : ByteArray) (n : Int) (hn : -9223372036854775808 ≤ n ∧ n ≤ 9223372036854775807) (w : World) (ht : Tab w) (he : Errs w) : Calls Tryz.prog 9 #[(.string a), (.string b), (.int .i64 n)] w fun e w' => e = .returned (.bool true) ∧ Below w.heap.size w w' := by
  obtain ⟨z, hz⟩ := Is.exists n
  have FZ : Hid (Is z n ∧ -9223372036854775808 ≤ n ∧ n ≤ 9223372036854775807) := ⟨hz, hn⟩
  have FZS : Hid (z.size ≤ 1000) := Is.size hz (i64_limit hn.1 hn.2)
  clear hz hn
  obtain ⟨k, hk, hks, hk30⟩ : ∃ k : Nat, min (a.size : Int) 210 = (k : Int) ∧ k ≤ a.size ∧ k ≤ 210 := ⟨min a.size 210, by omega, by omega, by omega⟩
  obtain ⟨l, hl, hls, hl30⟩ : ∃ k : Nat, min (b.size : Int) 210 = (k : Int) ∧ k ≤ b.size ∧ k ≤ 210 := ⟨min b.size 210, by omega, by omega, by omega⟩
  have hus : (a.extract 0 k).size = k := by rw [ByteArray.size_extract]; omega
  have hvs : (b.extract 0 l).size = l := by rw [ByteArray.size_extract]; omega
  have HT := Lib.hid ht
  have HB0 := Since.refl w
  clear ht
  have HE := Lib.hid he
  clear he
  go_enter Tryz.func9, Tryz.ntmps9
  go_wp2_with fail
  refine (sane_any _ (HB0.tab HT)).mono ?_
  rintro e w1 ⟨rfl, hb1⟩
  have HB1 : Since w w1 := HB0.next hb1
  clear hb1
  go_wp2_with fail
  have HU : Hid ((a.extract 0 k).size ≤ 1000) := by show _ ≤ _; rw [hus]; omega
  have HV : Hid ((b.extract 0 l).size ≤ 1000) := by show _ ≤ _; rw [hvs]; omega
  clear hk hks hk30 hl hls hl30 hus hvs
  revert HU HV
  generalize a.extract 0 k = u
  generalize b.extract 0 l = v
  intro HU HV
  refine (made_to 70 (by decide) rfl HB1).mono ?_
  rintro e w2 ⟨m1, M1, rfl, HM1, HB2⟩
  go_wp2_with fail
  refine (made_to 30 (by decide) rfl HB2).mono ?_
  rintro e w3 ⟨m2, M2, rfl, HM2, HB3⟩
  go_wp2_with fail
  refine (made_to 12 (by decide) rfl HB3).mono ?_
  rintro e w4 ⟨m3, M3, rfl, HM3, HB4⟩
  have S1 : Hid (m1.size ≤ 1000) := Is.size HM1.out.1 (HM1.out.2.limit (by decide))
  have S2 : Hid (m2.size ≤ 1000) := Is.size HM2.out.1 (HM2.out.2.limit (by decide))
  have S3 : Hid (m3.size ≤ 1000) := Is.size HM3.out.1 (HM3.out.2.limit (by decide))
  clear HM1 HM2 HM3
  go_wp2_with fail
  refine ((rfrom_any n FZ.out.2.1 FZ.out.2.2 _).mono fun e w' h => since_mk HB4 h).mono ?_
  rw [show (⟨(str n).toArray⟩ : ByteArray) = z from (FZ.out.1).symm]
  rintro e w5 ⟨rfl, HB5⟩
  have HC0 : Hid (∀ j, j < 6 → (w5.alloc (.cells #[.string u, .string v, .string m1, .string m2, .string m3, .string z] 37)).cell? ⟨w5.heap.size, j, none⟩ = some (.string (pick6 u v m1 m2 m3 z j))) := by
    intro j hj
    rw [World.cell?_alloc_at _ _ _ _ rfl]
    match j, hj with
    | 0, _ => rfl
    | 1, _ => rfl
    | 2, _ => rfl
    | 3, _ => rfl
    | 4, _ => rfl
    | 5, _ => rfl
  have HSZ : Hid (∀ j, (pick6 u v m1 m2 m3 z j).size ≤ 1000) := by
    intro j
    unfold pick6
    split <;> first | exact HU.out | exact HV.out | exact S1.out | exact S2.out | exact S3.out | exact FZS.out
  have HB6 : Since w (w5.alloc (.cells #[.string u, .string v, .string m1, .string m2, .string m3, .string z] 37)) := HB5.next ((Below.refl _ w5).alloc (Nat.le_refl _) _)
  have HLT : Hid (w5.heap.size < (w5.alloc (.cells #[.string u, .string v, .string m1, .string m2, .string m3, .string z] 37)).heap.size) := by show _ < _; simp
  clear HU HV S1 S2 S3 FZS
  go_wp2_with fail
  generalize w5.alloc (.cells #[.string u, .string v, .string m1, .string m2, .string m3, .string z] 37) = w6 at HC0 HB6 HLT ⊢
  generalize w5.heap.size = bb at HC0 HLT ⊢
  generalize hS : pick6 u v m1 m2 m3 z = S6 at HC0 HSZ
  clear hS HB5
  go_loopw [50] (fun i wr => ∃ k : Nat, i = .int .i64 (k : Int) ∧ k ≤ 3 ∧ Hid (Below w6.heap.size w6 wr)) (fun i _ => 4 - (intOf2 i).toNat)
  case atStart => exact ⟨0, rfl, by omega, Below.refl _ _⟩
  case round =>
    obtain ⟨k, rfl, hk, HR⟩ := hrel
    have HW : Since w wr := HB6.next HR.out
    by_cases hk3 : k < 3
    · have hc0 : wr.cell? ⟨bb, k * 2, none⟩ = some (.string (S6 (k * 2))) := (HR.out.cell (p := ⟨bb, k * 2, none⟩) HLT.out).trans (HC0.out _ (by omega))
      have hc1 : wr.cell? ⟨bb, k * 2 + 1, none⟩ = some (.string (S6 (k * 2 + 1))) := (HR.out.cell (p := ⟨bb, k * 2 + 1, none⟩) HLT.out).trans (HC0.out _ (by omega))
      obtain ⟨x0, hx0⟩ : ∃ x, x = S6 (k * 2) := ⟨_, rfl⟩
      obtain ⟨x1, hx1⟩ : ∃ x, x = S6 (k * 2 + 1) := ⟨_, rfl⟩
      have hz0 : x0.size ≤ 1000 := by rw [hx0]; exact HSZ.out _
      have hz1 : x1.size ≤ 1000 := by rw [hx1]; exact HSZ.out _
      rw [← hx0] at hc0
      rw [← hx1] at hc1
      clear hx0 hx1
      have HTa0 : Hid (Tab (wr.alloc (.cells #[.string x0, .string x1] 37))) := (HW.next ((Below.refl _ wr).alloc (Nat.le_refl _) _)).tab HT
      have HEa0 : Hid (Errs (wr.alloc (.cells #[.string x0, .string x1] 37))) := HE.out.below (HW.next ((Below.refl _ wr).alloc (Nat.le_refl _) (.cells #[.string x0, .string x1] 37))).out
      have HFa0 : Hid (Below w6.heap.size w6 (wr.alloc (.cells #[.string x0, .string x1] 37))) := HR.out.alloc HR.out.size _
      have HCa0 : Hid ((wr.alloc (.cells #[.string x0, .string x1] 37)).cell? ⟨wr.heap.size, 0, none⟩ = some (.string x0) ∧ (wr.alloc (.cells #[.string x0, .string x1] 37)).cell? ⟨wr.heap.size, 1, none⟩ = some (.string x1) ∧ wr.heap.size < (wr.alloc (.cells #[.string x0, .string x1] 37)).heap.size) := by
        refine ⟨?_, ?_, by simp⟩
        · rw [World.cell?_alloc_at _ _ _ _ rfl]; rfl
        · rw [World.cell?_alloc_at _ _ _ _ rfl]; rfl
      obtain ⟨r1, d1, h1⟩ := some_pair (addS x0.data.toList x1.data.toList)
      obtain ⟨r2, d2, h2⟩ := some_pair (subS x0.data.toList x1.data.toList)
      obtain ⟨r3, d3, h3⟩ := some_pair (mulS x0.data.toList x1.data.toList)
      obtain ⟨r4, s4, d4, h4⟩ := some_three (divS x0.data.toList x1.data.toList)
      obtain ⟨r5, d5, h5⟩ := some_pair (gcdS x0.data.toList x1.data.toList)
      obtain ⟨r6, d6, h6⟩ := some_pair (rootS x0.data.toList)
      obtain ⟨k7, d7, h7⟩ : ∃ k c, toIntS x0.data.toList = (k, c) := ⟨_, _, rfl⟩
      obtain ⟨v8, h8⟩ : ∃ v, valid x0.data.toList = v := ⟨_, rfl⟩
      obtain ⟨c9, h9⟩ : ∃ c, cmpS x0.data.toList x1.data.toList = c := ⟨_, rfl⟩
      have F1 := Lib.hid h1
      have F2 := Lib.hid h2
      have F3 := Lib.hid h3
      have F4 := Lib.hid h4
      have F5 := Lib.hid h5
      have F6 := Lib.hid h6
      have F7 : Hid (x0.size ≤ 1000 ∧ toIntS x0.data.toList = (k7, d7)) := ⟨hz0, h7⟩
      have F7b := Lib.hid h7
      have F8 := Lib.hid h8
      have F9 := Lib.hid h9
      have HZ0 := Lib.hid hz0
      have HZ1 := Lib.hid hz1
      clear h1 h2 h3 h4 h5 h6 h7 h8 h9 hz0 hz1
      go_wp2_with fail
      clear hc0 hc1 HW HR
      generalize wr.alloc (.cells #[.string x0, .string x1] 37) = wa at HTa0 HEa0 HFa0 HCa0 ⊢
      generalize wr.heap.size = bx at HCa0 ⊢
      have HA0 := Since.refl wa
      refine (add_to r1 d1 HTa0 HA0 F1.out).mono ?_
      rintro e wa1 ⟨rfl, HA1⟩
      have hc0 : wa1.cell? ⟨bx, 0, none⟩ = some (.string x0) := (HA1.out.cell (p := ⟨bx, 0, none⟩) HCa0.out.2.2).trans HCa0.out.1
      have hc1 : wa1.cell? ⟨bx, 1, none⟩ = some (.string x1) := (HA1.out.cell (p := ⟨bx, 1, none⟩) HCa0.out.2.2).trans HCa0.out.2.1
      go_wp2_with fail
      clear hc0 hc1
      refine ((radd_any x0 x1 HZ0.out HZ1.out _ r1 d1 F1).mono fun e w' h => since_mk HA1 h).mono ?_
      rintro e wa2 ⟨rfl, HA2⟩
      have hc0 : wa2.cell? ⟨bx, 0, none⟩ = some (.string x0) := (HA2.out.cell (p := ⟨bx, 0, none⟩) HCa0.out.2.2).trans HCa0.out.1
      have hc1 : wa2.cell? ⟨bx, 1, none⟩ = some (.string x1) := (HA2.out.cell (p := ⟨bx, 1, none⟩) HCa0.out.2.2).trans HCa0.out.2.1
      go_wp2_with fail
      clear hc0 hc1
      refine (sub_to r2 d2 HTa0 HA2 F2.out).mono ?_
      rintro e wa3 ⟨rfl, HA3⟩
      have hc0 : wa3.cell? ⟨bx, 0, none⟩ = some (.string x0) := (HA3.out.cell (p := ⟨bx, 0, none⟩) HCa0.out.2.2).trans HCa0.out.1
      have hc1 : wa3.cell? ⟨bx, 1, none⟩ = some (.string x1) := (HA3.out.cell (p := ⟨bx, 1, none⟩) HCa0.out.2.2).trans HCa0.out.2.1
      go_wp2_with fail
      clear hc0 hc1
      refine ((rsub_any x0 x1 HZ0.out HZ1.out _ r2 d2 F2).mono fun e w' h => since_mk HA3 h).mono ?_
      rintro e wa4 ⟨rfl, HA4⟩
      have hc0 : wa4.cell? ⟨bx, 0, none⟩ = some (.string x0) := (HA4.out.cell (p := ⟨bx, 0, none⟩) HCa0.out.2.2).trans HCa0.out.1
      have hc1 : wa4.cell? ⟨bx, 1, none⟩ = some (.string x1) := (HA4.out.cell (p := ⟨bx, 1, none⟩) HCa0.out.2.2).trans HCa0.out.2.1
      go_wp2_with fail
      clear hc0 hc1
      refine (mul_to r3 d3 HTa0 HA4 F3.out).mono ?_
      rintro e wa5 ⟨rfl, HA5⟩
      have hc0 : wa5.cell? ⟨bx, 0, none⟩ = some (.string x0) := (HA5.out.cell (p := ⟨bx, 0, none⟩) HCa0.out.2.2).trans HCa0.out.1
      have hc1 : wa5.cell? ⟨bx, 1, none⟩ = some (.string x1) := (HA5.out.cell (p := ⟨bx, 1, none⟩) HCa0.out.2.2).trans HCa0.out.2.1
      go_wp2_with fail
      clear hc0 hc1
      refine ((rmul_any x0 x1 HZ0.out HZ1.out _ r3 d3 F3).mono fun e w' h => since_mk HA5 h).mono ?_
      rintro e wa6 ⟨rfl, HA6⟩
      have hc0 : wa6.cell? ⟨bx, 0, none⟩ = some (.string x0) := (HA6.out.cell (p := ⟨bx, 0, none⟩) HCa0.out.2.2).trans HCa0.out.1
      have hc1 : wa6.cell? ⟨bx, 1, none⟩ = some (.string x1) := (HA6.out.cell (p := ⟨bx, 1, none⟩) HCa0.out.2.2).trans HCa0.out.2.1
      go_wp2_with fail
      clear hc0 hc1
      refine (div_to r4 s4 d4 HTa0 HA6 F4.out).mono ?_
      rintro e wa7 ⟨rfl, HA7⟩
      have hc0 : wa7.cell? ⟨bx, 0, none⟩ = some (.string x0) := (HA7.out.cell (p := ⟨bx, 0, none⟩) HCa0.out.2.2).trans HCa0.out.1
      have hc1 : wa7.cell? ⟨bx, 1, none⟩ = some (.string x1) := (HA7.out.cell (p := ⟨bx, 1, none⟩) HCa0.out.2.2).trans HCa0.out.2.1
      go_wp2_with fail
      clear hc0 hc1
      refine ((rdiv_any x0 x1 HZ0.out HZ1.out _ r4 s4 d4 F4).mono fun e w' h => since_mk HA7 h).mono ?_
      rintro e wa8 ⟨rfl, HA8⟩
      have hc0 : wa8.cell? ⟨bx, 0, none⟩ = some (.string x0) := (HA8.out.cell (p := ⟨bx, 0, none⟩) HCa0.out.2.2).trans HCa0.out.1
      have hc1 : wa8.cell? ⟨bx, 1, none⟩ = some (.string x1) := (HA8.out.cell (p := ⟨bx, 1, none⟩) HCa0.out.2.2).trans HCa0.out.2.1
      go_wp2_with fail
      clear hc0 hc1
      refine (gcd_to r5 d5 HTa0 HA8 F5.out).mono ?_
      rintro e wa9 ⟨rfl, HA9⟩
      have hc0 : wa9.cell? ⟨bx, 0, none⟩ = some (.string x0) := (HA9.out.cell (p := ⟨bx, 0, none⟩) HCa0.out.2.2).trans HCa0.out.1
      have hc1 : wa9.cell? ⟨bx, 1, none⟩ = some (.string x1) := (HA9.out.cell (p := ⟨bx, 1, none⟩) HCa0.out.2.2).trans HCa0.out.2.1
      go_wp2_with fail
      clear hc0 hc1
      refine ((rgcd_any x0 x1 HZ0.out HZ1.out _ r5 d5 F5).mono fun e w' h => since_mk HA9 h).mono ?_
      rintro e wa10 ⟨rfl, HA10⟩
      have hc0 : wa10.cell? ⟨bx, 0, none⟩ = some (.string x0) := (HA10.out.cell (p := ⟨bx, 0, none⟩) HCa0.out.2.2).trans HCa0.out.1
      have hc1 : wa10.cell? ⟨bx, 1, none⟩ = some (.string x1) := (HA10.out.cell (p := ⟨bx, 1, none⟩) HCa0.out.2.2).trans HCa0.out.2.1
      go_wp2_with fail
      clear hc0 hc1
      refine (root_to r6 d6 HTa0 HA10 F6.out).mono ?_
      rintro e wa11 ⟨rfl, HA11⟩
      have hc0 : wa11.cell? ⟨bx, 0, none⟩ = some (.string x0) := (HA11.out.cell (p := ⟨bx, 0, none⟩) HCa0.out.2.2).trans HCa0.out.1
      have hc1 : wa11.cell? ⟨bx, 1, none⟩ = some (.string x1) := (HA11.out.cell (p := ⟨bx, 1, none⟩) HCa0.out.2.2).trans HCa0.out.2.1
      go_wp2_with fail
      clear hc0 hc1
      refine ((rroot_any x0 HZ0.out _ r6 d6 F6).mono fun e w' h => since_mk HA11 h).mono ?_
      rintro e wa12 ⟨rfl, HA12⟩
      have hc0 : wa12.cell? ⟨bx, 0, none⟩ = some (.string x0) := (HA12.out.cell (p := ⟨bx, 0, none⟩) HCa0.out.2.2).trans HCa0.out.1
      have hc1 : wa12.cell? ⟨bx, 1, none⟩ = some (.string x1) := (HA12.out.cell (p := ⟨bx, 1, none⟩) HCa0.out.2.2).trans HCa0.out.2.1
      go_wp2_with fail
      clear hc0 hc1
      refine (toInt_to k7 d7 HEa0 HA12 F7).mono ?_
      rintro e wa13 ⟨rfl, HA13⟩
      have hc0 : wa13.cell? ⟨bx, 0, none⟩ = some (.string x0) := (HA13.out.cell (p := ⟨bx, 0, none⟩) HCa0.out.2.2).trans HCa0.out.1
      have hc1 : wa13.cell? ⟨bx, 1, none⟩ = some (.string x1) := (HA13.out.cell (p := ⟨bx, 1, none⟩) HCa0.out.2.2).trans HCa0.out.2.1
      go_wp2_with fail
      clear hc0 hc1
      refine ((rtoInt_any x0 HZ0.out _ k7 d7 F7b).mono fun e w' h => since_mk HA13 h).mono ?_
      rintro e wa14 ⟨rfl, HA14⟩
      have hc0 : wa14.cell? ⟨bx, 0, none⟩ = some (.string x0) := (HA14.out.cell (p := ⟨bx, 0, none⟩) HCa0.out.2.2).trans HCa0.out.1
      have hc1 : wa14.cell? ⟨bx, 1, none⟩ = some (.string x1) := (HA14.out.cell (p := ⟨bx, 1, none⟩) HCa0.out.2.2).trans HCa0.out.2.1
      have mixed : Tryz.prog.follows .mixedOrders = true := by kernel_rfl
      have hc0' : wa14.drew.cell? ⟨bx, 0, none⟩ = some (.string x0) := hc0
      have hc1' : wa14.drew.cell? ⟨bx, 1, none⟩ = some (.string x1) := hc1
      have HAd : Since wa wa14.drew := HA14.next ⟨rfl, rfl, rfl, Nat.le_refl _, fun _ _ => rfl⟩
      go_wp2_with fail
      go_region_held3 (fun w' => w'.cell? ⟨bx, 0, none⟩ = some (.string x0) ∧ w'.cell? ⟨bx, 1, none⟩ = some (.string x1))
        (first | exact ⟨hc0', hc1'⟩ | exact ⟨p0, p1⟩ | exact ⟨p2, p3⟩ | exact ⟨p4, p5⟩)
        (first
          | (go_at_call 19; refine (valid_to v8 HAd F8.out).mono ?_; rintro e wv1 ⟨rfl, HV1⟩; have p0 := (HV1.out.cell (p := ⟨bx, 0, none⟩) HCa0.out.2.2).trans HCa0.out.1; have p1 := (HV1.out.cell (p := ⟨bx, 1, none⟩) HCa0.out.2.2).trans HCa0.out.2.1)
          | (go_at_call 33; refine (rvalid_to v8 _ HZ0.out F8.out).mono ?_; rintro e wv2 ⟨rfl, hww⟩; subst hww)
          | (go_at_call 18; refine (cmp_to c9 HV1 F9.out).mono ?_; rintro e wv3 ⟨rfl, HV3⟩; have p2 := (HV3.out.cell (p := ⟨bx, 0, none⟩) HCa0.out.2.2).trans HCa0.out.1; have p3 := (HV3.out.cell (p := ⟨bx, 1, none⟩) HCa0.out.2.2).trans HCa0.out.2.1)
          | (go_at_call 34; refine ((rcompare_any x0 x1 HZ0.out HZ1.out _ c9 F9).mono fun e w' h => since_mk HV3 h).mono ?_; rintro e wv4 ⟨rfl, HV4⟩; have p4 := (HV4.out.cell (p := ⟨bx, 0, none⟩) HCa0.out.2.2).trans HCa0.out.1; have p5 := (HV4.out.cell (p := ⟨bx, 1, none⟩) HCa0.out.2.2).trans HCa0.out.2.1))
      have HFN : Hid (Below w6.heap.size w6 wv4) := HFa0.out.trans (HV4.out.mono HFa0.out.size)
      go_wp2
      go_roundw
      case rel => exact ⟨k + 1, by go_num, by omega, HFN⟩
      case measure => simp [intOf2]; omega
    · obtain rfl : k = 3 := by omega
      go_wp2_with fail
      refine (from_to z HT HW FZ).mono ?_
      rintro e w7 ⟨rfl, HB7⟩
      go_wp2_with fail
      refine ((rfrom_any n FZ.out.2.1 FZ.out.2.2 _).mono fun e w' h => since_mk HB7 h).mono ?_
      rw [show (⟨(str n).toArray⟩ : ByteArray) = z from (FZ.out.1).symm]
      rintro e w8 ⟨rfl, HB8⟩
      go_wp2
      go_ret
      exact ⟨rfl, HB8.out⟩

end Go.Proofs.Tryz
