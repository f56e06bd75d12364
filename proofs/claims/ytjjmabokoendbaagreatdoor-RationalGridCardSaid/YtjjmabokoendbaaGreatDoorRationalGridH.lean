/- RationalGrid: the row's statement and its tied card hold. -/
import Derived.Test.YtjjmabokoendbaaGreatDoorCards
import Derived.Test.YtjjmabokoendbaaGreatDoorTie
import Derived.Test.YtjjmabokoendbaaGreatDoorLaidR
import Derived.Test.YtjjmabokoendbaaGreatDoorRGrid
import Derived.SevenTiedAt
namespace Go.Proofs.YtjjmabokoendbaaGreatDoor
open Go.ChangeShapes Go.WideShapes Go.ChangeAt Go.RowKit

set_option maxRecDepth 100000 in
set_option maxHeartbeats 1000000 in
theorem rationalGrid_lifted (os : Os) (started : os.Started) (H : Type) (enc : TypeId × Value → H) :
    ReturnsInHanded {} Tryz.checked os 4 .any (fun w args => (Rows.rationalGridSpec.pre enc Tryz.prog Tryz.f4 Rows.rationalGridRow.domain false w args ∧ laidMetH Tryz.prog laid w) ∧ sizedMet enc Tryz.prog Tryz.f4 (OpenSpec.ofChange Rows.rationalGridSpec) false w args)
      (Rows.rationalGridSpec.post enc Tryz.prog Tryz.f4 false true false false) := by
  refine returns_listed_shaped (C := Tryz.checked) (X := fun w _ => laidMetH Tryz.prog laid w) (fun _ _ _ hh h => h.of_heap hh) own started (by kernel_rfl) Tryz.func4
    (ChangeSpec.witness_shaped (enc := enc) (C := Tryz.checked) (os := os) (X := fun w _ => laidMetH Tryz.prog laid w) false (World.laidAll Tryz.prog os laid) #[.agg #[.int .i64 0, .int .i64 0, .int .i64 0, .int .i64 0], .int .i64 0] 8 (World.laidAll_os _ _ _)
      (World.shaped_of_ZipB (by kernel_rfl) (by kernel_rfl)) (by kernel_rfl) (by kernel_rfl) (by kernel_rfl)
      (by rw [MakeChecks.laidMetH_plain _ _ _ (by kernel_rfl)]; exact laidMet_laidAll _ (by kernel_rfl) (by kernel_rfl))) ?_
  intro W base args ds gs before hval0 hW hL hSh
  have hval : ∀ (j : Nat) t v, Tryz.f4.params[j]? = some t → args[j]? = some v → Value.okWide Tryz.prog W .any base t v := hval0
  have hW' := hW
  obtain ⟨p, q, hA0, hV, rfl, _, _⟩ := hW
  have hA : DataW.TrodAll enc Tryz.prog W 0 (fun _ => true) true Tryz.f4.params.toList args.toList ds p := hA0
  rw [Tryz.params4] at hA hval
  clear hA0 hval0
  obtain ⟨v0, v1, d0, d1, p0, p1, rfl, rfl, rfl, h0, h1⟩ := trodAll_two hA
  obtain ⟨rfl, rfl⟩ := trodVars_none hV
  obtain ⟨a0, b0, c0, e0, rfl, rfl, rfl, s0a, s0b, s0c, s0e⟩ := open_arr4 (hval 0 22 v0 rfl rfl) h0
  obtain ⟨x1, rfl, rfl, rfl, s1⟩ := open_int Tryz.underlying3 (hval 1 3 v1 rfl rfl) h1
  have hi : ∀ x ∈ [a0, b0, c0, e0, x1], Tryz.I64 x := by
    simp only [List.mem_cons, List.mem_nil_iff, or_false, forall_eq_or_imp, forall_eq]
    exact ⟨bounds_i64 s0a, bounds_i64 s0b, bounds_i64 s0c, bounds_i64 s0e, bounds_i64 s1⟩
  refine (Tryz.rationalGrid_any a0 b0 c0 e0 x1 W (laid_gives hL) (shape_gives hSh) hi).mono ?_
  rintro e W' ⟨rfl, hb⟩
  have e1 : Rows.rationalGridSpec.fn H ([(.agg [.lit (.int .i64 a0), .lit (.int .i64 b0), .lit (.int .i64 c0), .lit (.int .i64 e0)] : DataW H), (.lit (.int .i64 x1) : DataW H)] ++ []) = { results := [.lit (.bool true)], args := [(.agg [.lit (.int .i64 a0), .lit (.int .i64 b0), .lit (.int .i64 c0), .lit (.int .i64 e0)] : DataW H), (.lit (.int .i64 x1) : DataW H)] } := by simp [Rows.rationalGridSpec]
  refine ⟨_, rfl, _, _, _, [], [], [], hW', ?_, ?_, ?_, hb.frame _, fun h => by cases h⟩
  · rw [e1]; exact trodAll_mk1 (shut_bool Tryz.underlying4 true)
  · rw [e1]; exact trodAll_mk2 (shut_arr4 s0a s0b s0c s0e) (shut_int Tryz.underlying3 s1)
  · rw [e1]; rfl

theorem rationalGrid_said : Rows.RationalGridSaid :=
  OpenClaim.holds_of_wide 4 Tryz.f4 rfl rfl rfl rfl rfl rfl rfl ⟨rfl, rfl, rfl, rfl, rfl⟩ rfl rfl rfl rfl rfl (by kernel_rfl) Tryz.func4 (by kernel_rfl)
    (of_decide_eq_true (by kernel_rfl)) (by unfold Func.isWrapper; first | (rw [if_pos (by decide +kernel)]; kernel_rfl) | (rw [if_neg (by decide +kernel)]; exact ⟨rfl, rfl⟩))
    (fun os started H enc _ => rationalGrid_lifted os started H enc)

theorem rationalGrid_card : Rows.RationalGridCardSaid :=
  Claim7.holds_tied_plain_at .later [] [.data, .data, .data, .data, .sentinel, .sentinel, .pinned] true (true, "de43e7c296a86fe89636b945ce4c25c357077ce38e631f062ef83fa2817cb97c") true
    rationalGrid_said (fun _ h => by cases h) (by kernel_rfl) (fun _ h => by cases h) rationalGrid_row_tie rfl ⟨rfl, rfl⟩ (by kernel_rfl) rfl
    (fun f fn hf hfn => by
      obtain rfl : f = 4 := Option.some.inj ((show Tryz.prog.funcNamed "dialtone/dialtonelaw04.RationalGrid" = some 4 by kernel_rfl).symm.trans hf) |>.symm
      obtain rfl : fn = Tryz.f4 := (Option.some.inj (Tryz.func4.symm.trans hfn)).symm
      exact ⟨by kernel_rfl, fun j t ht => by
        rw [Tryz.params4] at ht
        have hm : t ∈ [22, 3] := by simpa using Array.mem_of_getElem? ht
        have hall : ([22, 3].all fun u => !Tryz.prog.wantsStandIn u) = true := by kernel_rfl
        exact (show Tryz.prog.wantsStandIn t = false by simpa using List.all_eq_true.1 hall t hm)⟩)
    (by kernel_rfl)

#print axioms rationalGrid_card
end Go.Proofs.YtjjmabokoendbaaGreatDoor
