/- RationalLimits: the row's statement and its tied card hold. -/
import Derived.Test.YtjjmabokoendbaaGreatDoorCards
import Derived.Test.YtjjmabokoendbaaGreatDoorTie
import Derived.Test.YtjjmabokoendbaaGreatDoorLaidR
import Derived.Test.YtjjmabokoendbaaGreatDoorRLimits
import Derived.SevenTiedAt
namespace Go.Proofs.YtjjmabokoendbaaGreatDoor
open Go.ChangeShapes Go.WideShapes Go.ChangeAt Go.RowKit

set_option maxRecDepth 100000 in
set_option maxHeartbeats 1000000 in
theorem rationalLimits_lifted (os : Os) (started : os.Started) (H : Type) (enc : TypeId × Value → H) :
    ReturnsInHanded {} Tryz.checked os 7 .any (fun w args => (Rows.rationalLimitsSpec.pre enc Tryz.prog Tryz.f7 Rows.rationalLimitsRow.domain false w args ∧ laidMetH Tryz.prog laid w) ∧ sizedMet enc Tryz.prog Tryz.f7 (OpenSpec.ofChange Rows.rationalLimitsSpec) false w args)
      (Rows.rationalLimitsSpec.post enc Tryz.prog Tryz.f7 false true false false) := by
  refine returns_listed_shaped (C := Tryz.checked) (X := fun w _ => laidMetH Tryz.prog laid w) (fun _ _ _ hh h => h.of_heap hh) own started (by kernel_rfl) Tryz.func7
    (ChangeSpec.witness_shaped (enc := enc) (C := Tryz.checked) (os := os) (X := fun w _ => laidMetH Tryz.prog laid w) false (World.laidAll Tryz.prog os laid) #[.int .i64 0, .int .i64 0] 8 (World.laidAll_os _ _ _)
      (World.shaped_of_ZipB (by kernel_rfl) (by kernel_rfl)) (by kernel_rfl) (by kernel_rfl) (by kernel_rfl)
      (by rw [MakeChecks.laidMetH_plain _ _ _ (by kernel_rfl)]; exact laidMet_laidAll _ (by kernel_rfl) (by kernel_rfl))) ?_
  intro W base args ds gs before hval0 hW hL hSh
  have hval : ∀ (j : Nat) t v, Tryz.f7.params[j]? = some t → args[j]? = some v → Value.okWide Tryz.prog W .any base t v := hval0
  have hW' := hW
  obtain ⟨p, q, hA0, hV, rfl, _, _⟩ := hW
  have hA : DataW.TrodAll enc Tryz.prog W 0 (fun _ => true) true Tryz.f7.params.toList args.toList ds p := hA0
  rw [Tryz.params7] at hA hval
  clear hA0 hval0
  obtain ⟨v0, v1, d0, d1, p0, p1, rfl, rfl, rfl, h0, h1⟩ := trodAll_two hA
  obtain ⟨rfl, rfl⟩ := trodVars_none hV
  obtain ⟨x0, rfl, rfl, rfl, s0⟩ := open_int Tryz.underlying3 (hval 0 3 v0 rfl rfl) h0
  obtain ⟨x1, rfl, rfl, rfl, s1⟩ := open_int Tryz.underlying3 (hval 1 3 v1 rfl rfl) h1
  have hi : ∀ x ∈ [x0, x1], Tryz.I64 x := by
    simp only [List.mem_cons, List.mem_nil_iff, or_false, forall_eq_or_imp, forall_eq]
    exact ⟨bounds_i64 s0, bounds_i64 s1⟩
  refine (Tryz.rationalLimits_any x0 x1 W (laid_gives hL) (shape_gives hSh) hi).mono ?_
  rintro e W' ⟨rfl, hb⟩
  have e1 : Rows.rationalLimitsSpec.fn H ([(.lit (.int .i64 x0) : DataW H), (.lit (.int .i64 x1) : DataW H)] ++ []) = { results := [.lit (.bool true)], args := [(.lit (.int .i64 x0) : DataW H), (.lit (.int .i64 x1) : DataW H)] } := by simp [Rows.rationalLimitsSpec]
  refine ⟨_, rfl, _, _, _, [], [], [], hW', ?_, ?_, ?_, hb.frame _, fun h => by cases h⟩
  · rw [e1]; exact trodAll_mk1 (shut_bool Tryz.underlying4 true)
  · rw [e1]; exact trodAll_mk2 (shut_int Tryz.underlying3 s0) (shut_int Tryz.underlying3 s1)
  · rw [e1]; rfl

theorem rationalLimits_said : Rows.RationalLimitsSaid :=
  OpenClaim.holds_of_wide 7 Tryz.f7 rfl rfl rfl rfl rfl rfl rfl ⟨rfl, rfl, rfl, rfl, rfl⟩ rfl rfl rfl rfl rfl (by kernel_rfl) Tryz.func7 (by kernel_rfl)
    (of_decide_eq_true (by kernel_rfl)) (by unfold Func.isWrapper; first | (rw [if_pos (by decide +kernel)]; kernel_rfl) | (rw [if_neg (by decide +kernel)]; exact ⟨rfl, rfl⟩))
    (fun os started H enc _ => rationalLimits_lifted os started H enc)

theorem rationalLimits_card : Rows.RationalLimitsCardSaid :=
  Claim7.holds_tied_plain_at .later [] [.data, .data, .data, .data, .sentinel, .sentinel, .pinned] true (true, "de43e7c296a86fe89636b945ce4c25c357077ce38e631f062ef83fa2817cb97c") true
    rationalLimits_said (fun _ h => by cases h) (by kernel_rfl) (fun _ h => by cases h) rationalLimits_row_tie rfl ⟨rfl, rfl⟩ (by kernel_rfl) rfl
    (fun f fn hf hfn => by
      obtain rfl : f = 7 := Option.some.inj ((show Tryz.prog.funcNamed "dialtone/dialtonelaw04.RationalLimits" = some 7 by kernel_rfl).symm.trans hf) |>.symm
      obtain rfl : fn = Tryz.f7 := (Option.some.inj (Tryz.func7.symm.trans hfn)).symm
      exact ⟨by kernel_rfl, fun j t ht => by
        rw [Tryz.params7] at ht
        have hm : t ∈ [3] := by simpa using Array.mem_of_getElem? ht
        have hall : ([3].all fun u => !Tryz.prog.wantsStandIn u) = true := by kernel_rfl
        exact (show Tryz.prog.wantsStandIn t = false by simpa using List.all_eq_true.1 hall t hm)⟩)
    (by kernel_rfl)

#print axioms rationalLimits_card
end Go.Proofs.YtjjmabokoendbaaGreatDoor
