/- IntegerMatchesReference: the row's statement and its tied card hold. -/
import Derived.Test.YtdjnkaeggnkgeaaGreatDoorCards
import Derived.Test.YtdjnkaeggnkgeaaGreatDoorTie
import Derived.Test.YtdjnkaeggnkgeaaGreatDoorLaid
import Derived.Test.YtdjnkaeggnkgeaaGreatDoorMatch
import Derived.SevenTiedAt
namespace Go.Proofs.YtdjnkaeggnkgeaaGreatDoor
open Go.ChangeShapes Go.WideShapes Go.ChangeAt Go.RowKit

set_option maxRecDepth 100000 in
theorem integerMatchesReference_lifted (os : Os) (started : os.Started) (H : Type) (enc : TypeId × Value → H) :
    ReturnsInHanded {} Tryz.checked os 9 .any (fun w args => (Rows.integerMatchesReferenceSpec.pre enc Tryz.prog Tryz.f9 Rows.integerMatchesReferenceRow.domain false w args ∧ laidMetH Tryz.prog laid w) ∧ sizedMet enc Tryz.prog Tryz.f9 (OpenSpec.ofChange Rows.integerMatchesReferenceSpec) false w args)
      (Rows.integerMatchesReferenceSpec.post enc Tryz.prog Tryz.f9 false true false false) := by
  refine returnsInHanded_of_change_and (C := Tryz.checked) (X := fun w _ => laidMetH Tryz.prog laid w) (fun _ _ _ hh h => h.of_heap hh) own started (by kernel_rfl) Tryz.func9
    (ChangeSpec.witness_shaped (enc := enc) (C := Tryz.checked) (os := os) (X := fun w _ => laidMetH Tryz.prog laid w) false (World.laidAll Tryz.prog os laid) #[.string .empty, .string .empty, .int .i64 0] 8 (World.laidAll_os _ _ _)
      (World.shaped_of_ZipB (by kernel_rfl) (by kernel_rfl)) (by kernel_rfl) (by kernel_rfl) (by kernel_rfl)
      (by rw [MakeChecks.laidMetH_plain _ _ _ (by kernel_rfl)]; exact laidMet_laidAll _ (by kernel_rfl) (by kernel_rfl))) ?_
  intro W base args ds gs before hval0 hW hc _ hL _
  have hval : ∀ (j : Nat) t v, Tryz.f9.params[j]? = some t → args[j]? = some v → Value.okWide Tryz.prog W .any base t v := hval0
  have hW' := hW
  obtain ⟨p, q, hA0, hV, rfl, _, _⟩ := hW
  have hA : DataW.TrodAll enc Tryz.prog W 0 (fun _ => true) true Tryz.f9.params.toList args.toList ds p := hA0
  rw [Tryz.params9] at hA hval
  obtain ⟨v0, v1, v2, d0, d1, d2, p0, p1, p2, rfl, rfl, rfl, h0, h1, h2⟩ := trodAll_three hA
  obtain ⟨rfl, rfl⟩ := trodVars_none hV
  obtain ⟨x0, rfl, rfl, rfl, s0⟩ := Go.ChangeMaps.open_string Tryz.underlying9 (hval 0 9 v0 rfl rfl) h0
  obtain ⟨x1, rfl, rfl, rfl, s1⟩ := Go.ChangeMaps.open_string Tryz.underlying9 (hval 1 9 v1 rfl rfl) h1
  obtain ⟨x2, rfl, rfl, rfl, s2⟩ := open_int Tryz.underlying3 (hval 2 3 v2 rfl rfl) h2
  obtain ⟨hT, hE⟩ := laid_gives hL
  refine (Tryz.matches_any x0 x1 x2 (bounds_i64 s2) W hT hE).mono ?_
  rintro e W' ⟨rfl, hb⟩
  have e1 : Rows.integerMatchesReferenceSpec.fn H ([(.lit (.string x0.data.toList) : DataW H), (.lit (.string x1.data.toList) : DataW H), (.lit (.int .i64 x2) : DataW H)] ++ []) = { results := [.lit (.bool true)], args := [(.lit (.string x0.data.toList) : DataW H), (.lit (.string x1.data.toList) : DataW H), (.lit (.int .i64 x2) : DataW H)] } := by simp [Rows.integerMatchesReferenceSpec]
  refine ⟨_, rfl, _, _, _, [], [], [], hW', ?_, ?_, ?_, hb.frame _, fun h => by cases h⟩
  · rw [e1]; exact trodAll_mk1 (shut_bool Tryz.underlying4 true)
  · rw [e1]; exact trodAll_mk3 (Go.ChangeMaps.shut_string Tryz.underlying9 s0) (Go.ChangeMaps.shut_string Tryz.underlying9 s1) (shut_int Tryz.underlying3 s2)
  · rw [e1]; rfl

theorem integerMatchesReference_said : Rows.IntegerMatchesReferenceSaid :=
  OpenClaim.holds_of_wide 9 Tryz.f9 rfl rfl rfl rfl rfl rfl rfl ⟨rfl, rfl, rfl, rfl, rfl⟩ rfl rfl rfl rfl rfl (by kernel_rfl) Tryz.func9 (by kernel_rfl)
    (of_decide_eq_true (by kernel_rfl)) (by unfold Func.isWrapper; first | (rw [if_pos (by decide +kernel)]; kernel_rfl) | (rw [if_neg (by decide +kernel)]; exact ⟨rfl, rfl⟩))
    (fun os started H enc _ => integerMatchesReference_lifted os started H enc)

theorem integerMatchesReference_card : Rows.IntegerMatchesReferenceCardSaid :=
  Claim7.holds_tied_plain_at .later [] [.data, .data, .data, .data, .sentinel, .sentinel, .pinned] true (true, "b3577c9cf087391fc96af14706370acae7d5cacc4bbf6e29249f95510eb68ded") true
    integerMatchesReference_said (fun _ h => by cases h) (by kernel_rfl) (fun _ h => by cases h) integerMatchesReference_row_tie rfl ⟨rfl, rfl⟩ (by kernel_rfl) rfl
    (fun f fn hf hfn => by
      obtain rfl : f = 9 := Option.some.inj ((show Tryz.prog.funcNamed "dialtone/dialtonelaw03.IntegerMatchesReference" = some 9 by kernel_rfl).symm.trans hf) |>.symm
      obtain rfl : fn = Tryz.f9 := (Option.some.inj (Tryz.func9.symm.trans hfn)).symm
      exact ⟨by kernel_rfl, fun j t ht => by
        rw [Tryz.params9] at ht
        have hm : t ∈ [9, 3] := by simpa using Array.mem_of_getElem? ht
        have hall : ([9, 3].all fun u => !Tryz.prog.wantsStandIn u) = true := by kernel_rfl
        exact (show Tryz.prog.wantsStandIn t = false by simpa using List.all_eq_true.1 hall t hm)⟩)
    (by kernel_rfl)

#print axioms integerMatchesReference_card
end Go.Proofs.YtdjnkaeggnkgeaaGreatDoor
