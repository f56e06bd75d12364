/- RationalOrder: the row's statement and its tied card hold. -/
import Derived.Test.YtjjmabokoendbaaGreatDoorCards
import Derived.Test.YtjjmabokoendbaaGreatDoorTie
import Derived.Test.YtjjmabokoendbaaGreatDoorLaidR
import Derived.Test.YtjjmabokoendbaaGreatDoorROrder
import Derived.SevenTiedAt
namespace Go.Proofs.YtjjmabokoendbaaGreatDoor
open Go.ChangeShapes Go.WideShapes Go.ChangeAt Go.RowKit

set_option maxRecDepth 100000 in
set_option maxHeartbeats 1000000 in
theorem rationalOrder_lifted (os : Os) (started : os.Started) (H : Type) (enc : TypeId × Value → H) :
    ReturnsInHanded {} Tryz.checked os 3 .any (fun w args => (Rows.rationalOrderSpec.pre enc Tryz.prog Tryz.f3 Rows.rationalOrderRow.domain false w args ∧ laidMetH Tryz.prog laid w) ∧ sizedMet enc Tryz.prog Tryz.f3 (OpenSpec.ofChange Rows.rationalOrderSpec) false w args)
      (Rows.rationalOrderSpec.post enc Tryz.prog Tryz.f3 false true false false) := by
  refine returns_listed_shaped (C := Tryz.checked) (X := fun w _ => laidMetH Tryz.prog laid w) (fun _ _ _ hh h => h.of_heap hh) own started (by kernel_rfl) Tryz.func3
    (ChangeSpec.witness_shaped (enc := enc) (C := Tryz.checked) (os := os) (X := fun w _ => laidMetH Tryz.prog laid w) false (World.laidAll Tryz.prog os laid) #[.agg #[.int .i64 0, .int .i64 0, .int .i64 0, .int .i64 0], .agg #[.int .i64 0, .int .i64 0, .int .i64 0, .int .i64 0], .agg #[.int .i64 0, .int .i64 0, .int .i64 0, .int .i64 0], .agg #[.int .i64 0, .int .i64 0]] 8 (World.laidAll_os _ _ _)
      (World.shaped_of_ZipB (by kernel_rfl) (by kernel_rfl)) (by kernel_rfl) (by kernel_rfl) (by kernel_rfl)
      (by rw [MakeChecks.laidMetH_plain _ _ _ (by kernel_rfl)]; exact laidMet_laidAll _ (by kernel_rfl) (by kernel_rfl))) ?_
  intro W base args ds gs before hval0 hW hL hSh
  have hval : ∀ (j : Nat) t v, Tryz.f3.params[j]? = some t → args[j]? = some v → Value.okWide Tryz.prog W .any base t v := hval0
  have hW' := hW
  obtain ⟨p, q, hA0, hV, rfl, _, _⟩ := hW
  have hA : DataW.TrodAll enc Tryz.prog W 0 (fun _ => true) true Tryz.f3.params.toList args.toList ds p := hA0
  rw [Tryz.params3] at hA hval
  clear hA0 hval0
  obtain ⟨v0, v1, v2, v3, d0, d1, d2, d3, p0, p1, p2, p3, rfl, rfl, rfl, h0, h1, h2, h3⟩ := trodAll_four' hA
  obtain ⟨rfl, rfl⟩ := trodVars_none hV
  obtain ⟨a0, b0, c0, e0, rfl, rfl, rfl, s0a, s0b, s0c, s0e⟩ := open_arr4 (hval 0 22 v0 rfl rfl) h0
  obtain ⟨a1, b1, c1, e1, rfl, rfl, rfl, s1a, s1b, s1c, s1e⟩ := open_arr4 (hval 1 22 v1 rfl rfl) h1
  obtain ⟨a2, b2, c2, e2, rfl, rfl, rfl, s2a, s2b, s2c, s2e⟩ := open_arr4 (hval 2 22 v2 rfl rfl) h2
  obtain ⟨a3, b3, rfl, rfl, rfl, s3a, s3b⟩ := open_arr2 (hval 3 23 v3 rfl rfl) h3
  have hi : ∀ x ∈ [a0, b0, c0, e0, a1, b1, c1, e1, a2, b2, c2, e2, a3, b3], Tryz.I64 x := by
    simp only [List.mem_cons, List.mem_nil_iff, or_false, forall_eq_or_imp, forall_eq]
    exact ⟨bounds_i64 s0a, bounds_i64 s0b, bounds_i64 s0c, bounds_i64 s0e, bounds_i64 s1a, bounds_i64 s1b, bounds_i64 s1c, bounds_i64 s1e, bounds_i64 s2a, bounds_i64 s2b, bounds_i64 s2c, bounds_i64 s2e, bounds_i64 s3a, bounds_i64 s3b⟩
  refine (Tryz.rationalOrder_any a0 b0 c0 e0 a1 b1 c1 e1 a2 b2 c2 e2 a3 b3 W (laid_gives hL) (shape_gives hSh) hi).mono ?_
  rintro e W' ⟨rfl, hb⟩
  have e1 : Rows.rationalOrderSpec.fn H ([(.agg [.lit (.int .i64 a0), .lit (.int .i64 b0), .lit (.int .i64 c0), .lit (.int .i64 e0)] : DataW H), (.agg [.lit (.int .i64 a1), .lit (.int .i64 b1), .lit (.int .i64 c1), .lit (.int .i64 e1)] : DataW H), (.agg [.lit (.int .i64 a2), .lit (.int .i64 b2), .lit (.int .i64 c2), .lit (.int .i64 e2)] : DataW H), (.agg [.lit (.int .i64 a3), .lit (.int .i64 b3)] : DataW H)] ++ []) = { results := [.lit (.bool true)], args := [(.agg [.lit (.int .i64 a0), .lit (.int .i64 b0), .lit (.int .i64 c0), .lit (.int .i64 e0)] : DataW H), (.agg [.lit (.int .i64 a1), .lit (.int .i64 b1), .lit (.int .i64 c1), .lit (.int .i64 e1)] : DataW H), (.agg [.lit (.int .i64 a2), .lit (.int .i64 b2), .lit (.int .i64 c2), .lit (.int .i64 e2)] : DataW H), (.agg [.lit (.int .i64 a3), .lit (.int .i64 b3)] : DataW H)] } := by simp [Rows.rationalOrderSpec]
  refine ⟨_, rfl, _, _, _, [], [], [], hW', ?_, ?_, ?_, hb.frame _, fun h => by cases h⟩
  · rw [e1]; exact trodAll_mk1 (shut_bool Tryz.underlying4 true)
  · rw [e1]; exact trodAll_mk4 (shut_arr4 s0a s0b s0c s0e) (shut_arr4 s1a s1b s1c s1e) (shut_arr4 s2a s2b s2c s2e) (shut_arr2 s3a s3b)
  · rw [e1]; rfl

theorem rationalOrder_said : Rows.RationalOrderSaid :=
  OpenClaim.holds_of_wide 3 Tryz.f3 rfl rfl rfl rfl rfl rfl rfl ⟨rfl, rfl, rfl, rfl, rfl⟩ rfl rfl rfl rfl rfl (by kernel_rfl) Tryz.func3 (by kernel_rfl)
    (of_decide_eq_true (by kernel_rfl)) (by unfold Func.isWrapper; first | (rw [if_pos (by decide +kernel)]; kernel_rfl) | (rw [if_neg (by decide +kernel)]; exact ⟨rfl, rfl⟩))
    (fun os started H enc _ => rationalOrder_lifted os started H enc)

theorem rationalOrder_card : Rows.RationalOrderCardSaid :=
  Claim7.holds_tied_plain_at .later [] [.data, .data, .data, .data, .sentinel, .sentinel, .pinned] true (true, "de43e7c296a86fe89636b945ce4c25c357077ce38e631f062ef83fa2817cb97c") true
    rationalOrder_said (fun _ h => by cases h) (by kernel_rfl) (fun _ h => by cases h) rationalOrder_row_tie rfl ⟨rfl, rfl⟩ (by kernel_rfl) rfl
    (fun f fn hf hfn => by
      obtain rfl : f = 3 := Option.some.inj ((show Tryz.prog.funcNamed "dialtone/dialtonelaw04.RationalOrder" = some 3 by kernel_rfl).symm.trans hf) |>.symm
      obtain rfl : fn = Tryz.f3 := (Option.some.inj (Tryz.func3.symm.trans hfn)).symm
      exact ⟨by kernel_rfl, fun j t ht => by
        rw [Tryz.params3] at ht
        have hm : t ∈ [22, 23] := by simpa using Array.mem_of_getElem? ht
        have hall : ([22, 23].all fun u => !Tryz.prog.wantsStandIn u) = true := by kernel_rfl
        exact (show Tryz.prog.wantsStandIn t = false by simpa using List.all_eq_true.1 hall t hm)⟩)
    (by kernel_rfl)

#print axioms rationalOrder_card
end Go.Proofs.YtjjmabokoendbaaGreatDoor
