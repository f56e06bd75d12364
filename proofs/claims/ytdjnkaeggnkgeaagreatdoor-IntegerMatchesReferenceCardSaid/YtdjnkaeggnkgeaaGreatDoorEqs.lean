/- Tests on whether two strings are equal, in the walk's own form. -/
import Derived.Test.YtdjnkaeggnkgeaaGreatDoorIs
import Derived.MapKept
import Derived.Laws.StructEq
namespace Go.Proofs.Dt

theorem toList_ne {x y : ByteArray} (h : x ≠ y) : (x.toList == y.toList) = false := by
  rw [← beq_toListBytes]
  cases hb : (x == y) with
  | false => rfl
  | true => exact absurd ((Go.MapKept.bytes_beq x y).1 hb) h
theorem toList_ne_zero {x : ByteArray} (h : x ≠ ⟨#[48]⟩) : (x.toList == [48]) = false := by
  have h2 := toList_ne h
  rwa [show (⟨#[48]⟩ : ByteArray).toList = [48] from Go.ByteArray.toList_eq _] at h2

end Go.Proofs.Dt
