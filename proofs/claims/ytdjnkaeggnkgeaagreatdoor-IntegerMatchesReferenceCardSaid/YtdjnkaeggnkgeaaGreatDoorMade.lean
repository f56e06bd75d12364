/- The reference's 'Made': an integer of at most so many digits. -/
import Derived.Test.YtdjnkaeggnkgeaaGreatDoorRef2
import Derived.Deep.RegionHeld3
namespace Go.Proofs.Tryz
open Go.RowKit Go.Proofs.Dt

/-- What 'Made' returns: an integer below a power of ten. -/
def MadePost (w : World) (most : Nat) (e : Ending) (w' : World) : Prop := ∃ z : Int, e = .returned (.string ⟨(str z).toArray⟩) ∧ Hid (Bd most z) ∧ Below w.heap.size w w'

theorem made_num {xs : List Int} {k most : Nat} (hd : Dgs 10 xs) (hl : xs.length ≤ most) (hk : Cut xs k) (hm : most ≤ 200) : Hid ((xs.take k).length ≤ 1000 ∧ Dgs 10 (xs.take k) ∧ ∃ n, RepN 10 (xs.take k) n ∧ n < 10 ^ most) := by
  obtain ⟨n, hn, _⟩ := rep_cut hd hk.1 hk.2.1 hk.2.2
  exact ⟨by rw [List.length_take]; omega, hd.take _, n, hn, rep_bd hn (by rw [List.length_take]; omega)⟩

theorem made_post {neg : Bool} {ys : List Int} {most : Nat} (h : ∃ n, RepN 10 ys n ∧ n < 10 ^ most) {w wr w3 : World} (hB : Below w.heap.size w wr) (hb : Below wr.heap.size wr w3) :
    MadePost w most (.returned (.string ⟨(rtextS neg ys).1.toArray⟩)) w3 := by
  obtain ⟨n, hn, hlt⟩ := h
  refine ⟨_, by rw [rtext_str neg hn], ?_, hB.trans (hb.mono hB.size)⟩
  show Bd _ _
  unfold Bd
  cases neg
  · simpa using hlt
  · simpa using hlt

set_option maxHeartbeats 4000000 in
set_option maxRecDepth 100000 in
theorem made_any (s : ByteArray) (most : Nat) (hm : most ≤ 200) (w : World) : Calls Tryz.prog 13 #[.string s, .int .i64 most] w (MadePost w most) := by
  obtain ⟨i0, hi, hz0, hz1, hz2⟩ := info_parts info3
  go_enter Tryz.func13, Tryz.ntmps13
  go_wp2_with fail
  go_loopw [5, 6] (fun v i wr => ∃ (f : Nat) (xs : List Int), i = .int .i64 (f : Int) ∧ f ≤ s.size ∧ f ≤ most ∧ Hid (xs.length = f ∧ Dgs 10 xs ∧ wr.ownsRow w.heap.size 3 1 v xs.length (xs.map (Value.int .i64)) ∧ Below w.heap.size w wr)) (fun v i wr => most - (intOf2 i).toNat)
  case atStart => exact ⟨0, [], rfl, by omega, by omega, rfl, Dgs.nil _, ⟨rfl, .inl ⟨rfl, rfl⟩⟩, Below.refl _ _⟩
  case round =>
    obtain ⟨f, xs, rfl, hf1, hf2, HR⟩ := hrel
    by_cases hf : f < s.size ∧ f < most
    · obtain ⟨h1, h2⟩ := hf
      have hw : wrap64 ((s[f].toNat : Nat) : Int) = (s[f].toNat : Int) := by have := s[f].toNat_lt; unfold wrap64; omega
      obtain ⟨d, ht, hd⟩ : ∃ d : Nat, ((s[f].toNat : Nat) : Int).tmod 10 = (d : Int) ∧ d < 10 := ⟨s[f].toNat % 10, by rw [Int.tmod_eq_emod_of_nonneg (by omega)]; omega, by omega⟩
      have hsz := HR.out.2.2.2.size
      have hxl := HR.out.1
      go_wp2_with (at_builtin; go_must (refine wpList_append_own _ rfl _ _ 44 rfl w.heap.size 3 i0 (.int .i64 0) 1 8 Tryz.underlying44 hi hz0 hz1 hz2 rfl (by decide) _ _ _ rfl (HR.out.2.2.1.alloc _) ⟨wr.heap.size, 0, none⟩ 1 1 [.int .i64 (d : Int)] rfl rfl ?_ ?_ ?_ ?_ ?_ ?_); rotate_right; intro v2 w2 hown2 hgrow2 _)
      · have HS : Hid ((xs ++ [(d : Int)]).length = f + 1 ∧ Dgs 10 (xs ++ [(d : Int)]) ∧ w2.ownsRow w.heap.size 3 1 v2 (xs ++ [(d : Int)]).length ((xs ++ [(d : Int)]).map (Value.int .i64)) ∧ Below w.heap.size w w2) := by
          refine ⟨by simp [hxl], HR.out.2.1.append (Dgs.one (by omega) (by omega)), ?_, (HR.out.2.2.2.alloc hsz _).grown hgrow2 (by simp; omega) (fun j hj => (HR.out.2.2.1.lt j hj).1)⟩
          rw [List.length_append, List.map_append]; exact hown2
        go_roundw
        case rel => exact ⟨f + 1, xs ++ [(d : Int)], by go_num, by omega, by omega, HS⟩
        case measure => simp [intOf2]; omega
      · exact cell_one_new _ _ _
      · simp [Value.oneCell']
      · unfold maxLen; omega
      · omega
      · simp; omega
    · obtain ⟨a, cp, rfl⟩ := (ownsRow_ints HR.out.2.2.1).shape
      have mixed : Tryz.prog.follows .mixedOrders = true := by kernel_rfl
      have HI : Hid (Ints wr.drew (.slice a xs.length cp) xs) := (ownsRow_ints HR.out.2.2.1).below (Nat.le_refl _) ⟨rfl, rfl, rfl, Nat.le_refl _, fun _ _ => rfl⟩
      have HB : Hid (Below w.heap.size w wr.drew) := HR.out.2.2.2.trans ⟨rfl, rfl, rfl, Nat.le_refl _, fun _ _ => rfl⟩
      have HG : Hid (Dgs 10 xs ∧ xs.length ≤ most) := ⟨HR.out.2.1, by rw [HR.out.1]; exact hf2⟩
      clear HR
      by_cases h0 : 0 < s.size
      · obtain ⟨u, hu⟩ : ∃ u : Nat, s[0].toNat = u := ⟨_, rfl⟩
        obtain ⟨nb, hnb⟩ : ∃ nb : Bool, decide ((128 : Int) ≤ (u : Int)) = nb := ⟨_, rfl⟩
        have hd0 : decide ((0 : Int) < (s.size : Int)) = true := by simpa using h0
        by_cases h1 : f < s.size
        · have h2 : ¬ f < most := fun h => hf ⟨h1, h⟩
          clear hf
          go_wp2_with fail
          clear h1 h2 hf1 hf2
          go_region_held3 (fun _ => True)
            (first | exact trivial)
            (first
              | (go_at_call 37; refine (rtrim_any _ (by have := HG.out.2; omega) HI.out).mono ?_; rintro e w2 ⟨v2, k, rfl, hk, hI, _, rfl⟩; have HN := made_num HG.out.1 HG.out.2 hk hm; revert hI HN; generalize xs.take k = ys; intro hI HN; obtain ⟨a2, c2, rfl⟩ := hI.shape)
              | (go_at_call 36; refine (rtext_any _ _ hI HN.out.1 HN.out.2.1).mono ?_; rintro e w3 ⟨rfl, hb3⟩))
          all_goals (go_wp2; go_ret; exact made_post HN.out.2.2 HB.out hb3)
        · clear hf
          go_wp2_with fail
          clear h1 hf1 hf2
          go_region_held3 (fun _ => True)
            (first | exact trivial)
            (first
              | (go_at_call 37; refine (rtrim_any _ (by have := HG.out.2; omega) HI.out).mono ?_; rintro e w2 ⟨v2, k, rfl, hk, hI, _, rfl⟩; have HN := made_num HG.out.1 HG.out.2 hk hm; revert hI HN; generalize xs.take k = ys; intro hI HN; obtain ⟨a2, c2, rfl⟩ := hI.shape)
              | (go_at_call 36; refine (rtext_any _ _ hI HN.out.1 HN.out.2.1).mono ?_; rintro e w3 ⟨rfl, hb3⟩))
          all_goals (go_wp2; go_ret; exact made_post HN.out.2.2 HB.out hb3)
      · have hs0 : s.size = 0 := by omega
        obtain rfl : f = 0 := by omega
        clear hf h0
        go_wp2_with fail
        first
          | (go_region_held (fun _ => True)
              (first | exact trivial)
              (first
                | (go_at_call 37; refine (rtrim_any _ (by have := HG.out.2; omega) HI.out).mono ?_; rintro e w2 ⟨v2, k, rfl, hk, hI, _, rfl⟩; have HN := made_num HG.out.1 HG.out.2 hk hm; revert hI HN; generalize xs.take k = ys; intro hI HN; obtain ⟨a2, c2, rfl⟩ := hI.shape)
                | (go_at_call 36; refine (rtext_any _ _ hI HN.out.1 HN.out.2.1).mono ?_; rintro e w3 ⟨rfl, hb3⟩)))
          | fail
        all_goals (go_wp2; go_ret; exact made_post HN.out.2.2 HB.out hb3)

end Go.Proofs.Tryz
