/- 'sane' of the laws: its fixed examples stand. -/
import Derived.Test.YtdjnkaeggnkgeaaGreatDoorZed
namespace Go.Proofs.Tryz
open Go.RowKit Go.Shelf Go.Proofs.Dt

set_option maxHeartbeats 4000000 in
set_option maxRecDepth 100000 in
theorem sane_any (w : World) (ht : Tab w) : Calls Tryz.prog 12 #[] w fun e w' => e = .returned (.bool true) ∧ Below w.heap.size w w' := by
  have HT := Lib.hid ht
  have HB0 := Since.refl w
  clear ht
  have F0 : Hid (addS [57, 57, 57] [49] = ([49, 48, 48, 48], 0)) := add_lit _ (by decide) (by decide) (by decide) (by decide)
  have F1 : Hid (subS [49] [49, 48, 48, 48] = ([45, 57, 57, 57], 0)) := sub_lit _ (by decide) (by decide) (by decide) (by decide)
  have F2 : Hid (mulS [45, 49, 50] [49, 50] = ([45, 49, 52, 52], 0)) := mul_lit _ (by decide) (by decide) (by decide) (by decide)
  have F3 : Hid (divS [45, 55] [50] = ([45, 52], [49], 0)) := div_lit _ _ (by decide) (by decide) (by decide) (by decide) (by decide) (by decide) (by decide)
  have F4 : Hid (divS [45, 55] [45, 50] = ([52], [49], 0)) := div_lit _ _ (by decide) (by decide) (by decide) (by decide) (by decide) (by decide) (by decide)
  have F5 : Hid (gcdS [49, 50] [45, 49, 56] = ([54], 0)) := gcd_lit _ (by decide) (by decide) (by decide) (by decide)
  have F6 : Hid (rootS [57, 57] = ([57], 0)) := root_lit _ (by decide) (by decide) (by decide) (by decide) (by constructor <;> decide)
  have F7 : Hid (rootS [45, 49] = ([], 30)) := root_no (by decide)
  have F8 : Hid (addS [48, 48, 55] [49] = ([], 30)) := add_no (by decide)
  have V0 : Hid (valid [45, 55] = true) := (by decide : valid [45, 55] = true)
  have V1 : Hid (valid [45, 48] = false) := (by decide : valid [45, 48] = false)
  have V2 : Hid (valid [] = false) := (by decide : valid [] = false)
  have C0 : Hid (cmpS [45, 56] [45, 55] = -1) := (cmp_lit (by decide) (by decide)).trans (by decide)
  go_enter Tryz.func12, Tryz.ntmps12
  go_wp2_with fail
  refine (add_to (⟨#[49, 48, 48, 48]⟩ : ByteArray) 0 HT HB0 F0.out).mono ?_
  rintro e w1 ⟨rfl, HB1⟩
  go_wp2_with fail
  refine (sub_to (⟨#[45, 57, 57, 57]⟩ : ByteArray) 0 HT HB1 F1.out).mono ?_
  rintro e w2 ⟨rfl, HB2⟩
  go_wp2_with fail
  refine (mul_to (⟨#[45, 49, 52, 52]⟩ : ByteArray) 0 HT HB2 F2.out).mono ?_
  rintro e w3 ⟨rfl, HB3⟩
  go_wp2_with fail
  refine (div_to (⟨#[45, 52]⟩ : ByteArray) (⟨#[49]⟩ : ByteArray) 0 HT HB3 F3.out).mono ?_
  rintro e w4 ⟨rfl, HB4⟩
  go_wp2_with fail
  refine (div_to (⟨#[52]⟩ : ByteArray) (⟨#[49]⟩ : ByteArray) 0 HT HB4 F4.out).mono ?_
  rintro e w5 ⟨rfl, HB5⟩
  go_wp2_with fail
  refine (gcd_to (⟨#[54]⟩ : ByteArray) 0 HT HB5 F5.out).mono ?_
  rintro e w6 ⟨rfl, HB6⟩
  go_wp2_with fail
  refine (root_to (⟨#[57]⟩ : ByteArray) 0 HT HB6 F6.out).mono ?_
  rintro e w7 ⟨rfl, HB7⟩
  go_wp2_with fail
  refine (root_to (⟨#[]⟩ : ByteArray) 30 HT HB7 F7.out).mono ?_
  rintro e w8 ⟨rfl, HB8⟩
  go_wp2_with fail
  refine (add_to (⟨#[]⟩ : ByteArray) 30 HT HB8 F8.out).mono ?_
  rintro e w9 ⟨rfl, HB9⟩
  go_wp2_with fail
  refine (valid_to true HB9 V0.out).mono ?_
  rintro e w10 ⟨rfl, HB10⟩
  go_wp2_with fail
  refine (valid_to false HB10 V1.out).mono ?_
  rintro e w11 ⟨rfl, HB11⟩
  go_wp2_with fail
  refine (valid_to false HB11 V2.out).mono ?_
  rintro e w12 ⟨rfl, HB12⟩
  go_wp2_with fail
  refine (cmp_to (-1) HB12 C0.out).mono ?_
  rintro e w13 ⟨rfl, HB13⟩
  go_wp2
  go_ret
  exact ⟨rfl, HB13.out⟩

end Go.Proofs.Tryz
