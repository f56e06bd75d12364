/- ToInt: what it returns. -/
import Derived.Test.YtdjnkaeggnkgeaaGreatDoorOps3
namespace Go.Proofs.Tryz
open Go.RowKit Go.Shelf Go.Proofs.Dt

/-- strconv's two errors lie in their variables. -/
structure Errs (W : World) : Prop where
  syn : ∃ tp p, W.var? Tryz.prog "strconv.ErrSyntax" = some #[.iface tp p]
  rng : ∃ tp p, W.var? Tryz.prog "strconv.ErrRange" = some #[.iface tp p]
theorem Errs.below {W W' : World} (h : Errs W) (hb : Below W.heap.size W W') : Errs W' :=
  ⟨let ⟨a, b, e⟩ := h.syn; ⟨a, b, var_below e hb⟩, let ⟨a, b, e⟩ := h.rng; ⟨a, b, var_below e hb⟩⟩

/-- Atoi: a number and nil, or a number and an error. -/
theorem atoi_any (s : ByteArray) (hl : s.size ≤ 1000) (w : World) (he : Errs w) : Calls Tryz.prog 57 #[.string s] w fun e w' => Below w.heap.size w w' ∧
    ((∃ v, Lib.atoiAll s.data.toList = .ok v ∧ e = .returned (.tuple #[.int .i64 v, .nilIface])) ∨ (∃ v tp p, (∀ u, Lib.atoiAll s.data.toList ≠ .ok u) ∧ e = .returned (.tuple #[.int .i64 v, .iface tp p]))) := by
  obtain ⟨t1, p1, h1⟩ := he.syn
  obtain ⟨t2, p2, h2⟩ := he.rng
  cases h : Lib.atoiAll s.data.toList with
  | ok v =>
    refine (Tryz.strconv_Atoi_ok s (by omega) v h w).mono ?_
    rintro e w' ⟨rfl, rfl | ⟨t, rfl⟩⟩
    · exact ⟨Below.refl _ _, .inl ⟨v, rfl, rfl⟩⟩
    · exact ⟨Lib.bytesWorld_below w _ _, .inl ⟨v, rfl, rfl⟩⟩
  | range =>
    refine (Tryz.strconv_Atoi_range_var s (by omega) h t2 p2 w h2).mono ?_
    rintro e w' ⟨N, rfl, _, _, hb⟩
    exact ⟨hb, .inr ⟨_, _, _, (fun u e => by cases e), rfl⟩⟩
  | _ =>
    refine (Tryz.strconv_Atoi_bad_var s (by omega) ⟨(fun u e => by rw [h] at e; cases e), (fun e => by rw [h] at e; cases e)⟩ t1 p1 w h1).mono ?_
    rintro e w' ⟨N, rfl, _, _, hb⟩
    exact ⟨hb, .inr ⟨_, _, _, (fun u e => by cases e), rfl⟩⟩

theorem toIntS_no {s : List UInt8} (h : valid s = false) : toIntS s = (0, 30) := by unfold toIntS; rw [h]; rfl
theorem toIntS_ok {s : List UInt8} (h : valid s = true) {v : Int} (hv : Lib.atoiAll s = .ok v) : toIntS s = (v, 0) := by
  rw [atoiAll_valid h] at hv
  split at hv
  · rename_i hr
    injection hv with hv
    unfold toIntS
    rw [h, decide_eq_true hr.1, decide_eq_true hr.2, ← hv]; rfl
  · cases hv
theorem toIntS_range {s : List UInt8} (h : valid s = true) (hv : ∀ u, Lib.atoiAll s ≠ .ok u) : toIntS s = (0, 30) := by
  rw [atoiAll_valid h] at hv
  unfold toIntS
  by_cases hr : -9223372036854775808 ≤ num s ∧ num s ≤ 9223372036854775807
  · rw [if_pos hr] at hv; exact absurd rfl (hv _)
  · rw [if_neg]
    rw [h]
    simpa using hr

set_option maxHeartbeats 4000000 in
set_option maxRecDepth 100000 in
theorem toInt_any (s : ByteArray) (hl : s.size ≤ 1000) (w : World) (he : Errs w) : Calls Tryz.prog 31 #[.string s] w fun e w' => e = .returned (.tuple #[.int .i64 (toIntS s.data.toList).1, .int .i64 (toIntS s.data.toList).2]) ∧ Below w.heap.size w w' := by
  have HA := Lib.hid (atoi_any s hl w he)
  have hV := isValid_any s
  clear hl he
  cases hs : valid s.data.toList with
  | false =>
    rw [hs] at hV
    have HS := Lib.hid (toIntS_no hs)
    clear hs
    go_enter Tryz.func31, Tryz.ntmps31
    go_wp2_with fail
    refine HA.out.mono ?_
    rintro e w1 ⟨hb1, ⟨v, _, rfl⟩ | ⟨v, tp, p, _, rfl⟩⟩
    all_goals
      go_wp2_with fail
      refine (hV _).mono ?_
      rintro e w2 ⟨rfl, hb2⟩
      go_wp2
      go_ret2
      exact ⟨by rw [HS.out]; rfl, hb1.trans (hb2.mono hb1.size)⟩
  | true =>
    rw [hs] at hV
    have HS := Lib.hid hs
    clear hs
    go_enter Tryz.func31, Tryz.ntmps31
    go_wp2_with fail
    refine HA.out.mono ?_
    rintro e w1 ⟨hb1, ⟨v, hv, rfl⟩ | ⟨v, tp, p, hv, rfl⟩⟩
    · have HR := Lib.hid (toIntS_ok HS.out hv)
      clear hv
      go_wp2_with fail
      refine (hV _).mono ?_
      rintro e w2 ⟨rfl, hb2⟩
      go_wp2
      go_ret2
      exact ⟨by rw [HR.out]; rfl, hb1.trans (hb2.mono hb1.size)⟩
    · have HR := Lib.hid (toIntS_range HS.out hv)
      clear hv
      go_wp2_with fail
      refine (hV _).mono ?_
      rintro e w2 ⟨rfl, hb2⟩
      go_wp2
      go_ret2
      exact ⟨by rw [HR.out]; rfl, hb1.trans (hb2.mono hb1.size)⟩

end Go.Proofs.Tryz
