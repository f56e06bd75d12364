/- IntegerText returns true: a number that is written is read again, and a string that is read is the one that is written. -/
import Derived.Test.YtdjnkaeggnkgeaaGreatDoorZed2
namespace Go.Proofs.Tryz
open Go.RowKit Go.Shelf Go.Proofs.Dt

theorem toIntS_cases (s : List UInt8) : toIntS s = (0, 30) ∨ (valid s = true ∧ -9223372036854775808 ≤ num s ∧ num s ≤ 9223372036854775807 ∧ toIntS s = (num s, 0)) := by
  unfold toIntS
  cases hv : valid s with
  | false => exact .inl rfl
  | true =>
    by_cases h0 : -9223372036854775808 ≤ num s
    · by_cases h1 : num s ≤ 9223372036854775807
      · refine .inr ⟨rfl, h0, h1, ?_⟩
        rw [decide_eq_true h0, decide_eq_true h1]; rfl
      · refine .inl ?_
        rw [decide_eq_true h0, decide_eq_false h1]; rfl
    · refine .inl ?_
      rw [decide_eq_false h0]; rfl

set_option maxHeartbeats 4000000 in
set_option maxRecDepth 100000 in
theorem itext_any (n : Int) (s : ByteArray) (hn : -9223372036854775808 ≤ n ∧ n ≤ 9223372036854775807) (w : World) (ht : Tab w) (he : Errs w) : Calls Tryz.prog 11 #[(.int .i64 n), (.string s)] w fun e w' => e = .returned (.bool true) ∧ Below w.heap.size w w' := by
  obtain ⟨t, ht'⟩ := Is.exists n
  have FT : Hid (Is t n ∧ -9223372036854775808 ≤ n ∧ n ≤ 9223372036854775807) := ⟨ht', hn⟩
  have bn := i64_limit hn.1 hn.2
  have FN : Hid (t.size ≤ 1000 ∧ toIntS t.data.toList = (n, 0)) := ⟨Is.size ht' bn, by rw [Is.list ht']; exact toIntS_str bn hn.1 hn.2⟩
  have FV : Hid (valid t.data.toList = true) := valid_is ht' bn
  clear ht' hn bn
  obtain ⟨k, hk, hks, hk30⟩ : ∃ k : Nat, min (s.size : Int) 30 = (k : Int) ∧ k ≤ s.size ∧ k ≤ 30 := ⟨min s.size 30, by omega, by omega, by omega⟩
  have hus : (s.extract 0 k).size = k := by rw [ByteArray.size_extract]; omega
  have HT := Lib.hid ht
  have HB0 := Since.refl w
  clear ht
  have HE := Lib.hid he
  clear he
  go_enter Tryz.func11, Tryz.ntmps11
  go_wp2_with fail
  refine (sane_any _ (HB0.tab HT)).mono ?_
  rintro e w1 ⟨rfl, hb1⟩
  have HB1 : Since w w1 := HB0.next hb1
  clear hb1
  go_wp2_with fail
  have hu1 : (s.extract 0 k).size ≤ 30 := by rw [hus]; exact hk30
  clear hk hus
  revert hu1
  generalize s.extract 0 k = u
  intro hu1
  rcases toIntS_cases u.data.toList with hc | ⟨hv, h0, h1, hc⟩
  · have FU : Hid (u.size ≤ 1000 ∧ toIntS u.data.toList = (0, 30)) := ⟨by omega, hc⟩
    clear hc hu1
    refine (from_to t HT HB1 FT).mono ?_
    rintro e w2 ⟨rfl, HB2⟩
    go_wp2_with fail
    refine (toInt_to n 0 HE HB2 FN).mono ?_
    rintro e w3 ⟨rfl, HB3⟩
    go_wp2_with fail
    refine (toInt_to 0 30 HE HB3 FU).mono ?_
    rintro e w4 ⟨rfl, HB4⟩
    go_wp2_with fail
    refine (valid_to true HB4 FV.out).mono ?_
    rintro e w5 ⟨rfl, HB5⟩
    go_wp2
    go_ret
    exact ⟨rfl, HB5.out⟩
  · have FU : Hid (u.size ≤ 1000 ∧ toIntS u.data.toList = (num u.data.toList, 0)) := ⟨by omega, hc⟩
    have FW : Hid (valid u.data.toList = true) := hv
    have FB : Hid (Is u (num u.data.toList) ∧ -9223372036854775808 ≤ num u.data.toList ∧ num u.data.toList ≤ 9223372036854775807) := ⟨Is.lit hv rfl, h0, h1⟩
    clear hv h0 h1 hc hu1
    revert FU FB
    generalize num u.data.toList = m
    intro FU FB
    refine (from_to t HT HB1 FT).mono ?_
    rintro e w2 ⟨rfl, HB2⟩
    go_wp2_with fail
    refine (toInt_to n 0 HE HB2 FN).mono ?_
    rintro e w3 ⟨rfl, HB3⟩
    go_wp2_with fail
    refine (toInt_to m 0 HE HB3 FU).mono ?_
    rintro e w4 ⟨rfl, HB4⟩
    go_wp2_with fail
    refine (valid_to true HB4 FV.out).mono ?_
    rintro e w5 ⟨rfl, HB5⟩
    go_wp2_with fail
    refine (valid_to true HB5 FW.out).mono ?_
    rintro e w6 ⟨rfl, HB6⟩
    go_wp2_with fail
    refine (from_to u HT HB6 FB).mono ?_
    rintro e w7 ⟨rfl, HB7⟩
    go_wp2
    go_ret
    exact ⟨rfl, HB7.out⟩

end Go.Proofs.Tryz
