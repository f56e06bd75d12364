/- FromInt and ToInt where the results are known. -/
import Derived.Test.YtdjnkaeggnkgeaaGreatDoorEqs
namespace Go.Proofs.Dt
theorem str_len {x : Int} (h : x.natAbs < limit) : (str x).length ≤ 201 := by
  have h1 := (valid_parts ((valid_str x).2 h)).2.1
  rw [body_str] at h1
  rcases Int.lt_or_le x 0 with e | e
  · rw [str_neg e, List.length_cons]; omega
  · rw [str_nonneg e, show x.toNat = x.natAbs by omega]; omega
theorem Is.size {x : ByteArray} {X : Int} (h : Is x X) (hl : X.natAbs < limit) : x.size ≤ 1000 := by
  have e : x.size = (str X).length := by rw [← h.list]; rfl
  have := str_len hl
  omega
theorem toIntS_str {x : Int} (h : x.natAbs < limit) (h0 : -9223372036854775808 ≤ x) (h1 : x ≤ 9223372036854775807) : toIntS (str x) = (x, 0) := by
  unfold toIntS
  rw [(valid_str x).2 h, num_str, decide_eq_true h0, decide_eq_true h1]; rfl
theorem i64_limit {x : Int} (h0 : -9223372036854775808 ≤ x) (h1 : x ≤ 9223372036854775807) : x.natAbs < limit :=
  Nat.lt_of_lt_of_le (show x.natAbs < 10 ^ 19 by omega) (Nat.pow_le_pow_right (by decide) (by decide))
end Go.Proofs.Dt
namespace Go.Proofs.Tryz
open Go.RowKit Go.Shelf Go.Proofs.Dt

theorem from_to {w0 w : World} {n : Int} (r : ByteArray) (ht : Hid (Tab w0)) (hB : Since w0 w) (hr : Hid (Is r n ∧ -9223372036854775808 ≤ n ∧ n ≤ 9223372036854775807)) :
    Calls Tryz.prog 35 #[.int .i64 n] w fun e w' => e = .returned (.string r) ∧ Since w0 w' := by
  refine (fromInt_any n hr.out.2.1 hr.out.2.2 w (hB.tab ht)).mono ?_
  rintro e w' ⟨rfl, hb⟩
  exact ⟨by rw [show r = _ from hr.out.1], hB.next hb⟩
theorem toInt_to {w0 w : World} {x : ByteArray} (n c : Int) (he : Hid (Errs w0)) (hB : Since w0 w) (h : Hid (x.size ≤ 1000 ∧ toIntS x.data.toList = (n, c))) :
    Calls Tryz.prog 31 #[.string x] w fun e w' => e = .returned (.tuple #[.int .i64 n, .int .i64 c]) ∧ Since w0 w' := by
  refine (toInt_any x h.out.1 w (he.out.below hB.out)).mono ?_
  rintro e w' ⟨rfl, hb⟩
  exact ⟨by rw [h.out.2], hB.next hb⟩

end Go.Proofs.Tryz
