/- What the rows' listed variables give the walks, and a world in which they lie. -/
import Derived.Test.YtdjnkaeggnkgeaaGreatDoorRows
import Derived.Test.YtdjnkaeggnkgeaaGreatDoorOps4
import Derived.ProofKit
import Derived.OpenShut
import Derived.LaidMore
import Derived.Lay
import Derived.Lib.LaidTab
import Derived.Stop.LaidErr
import Derived.Stop.Joined
namespace Go.Proofs.YtdjnkaeggnkgeaaGreatDoor
open Go.ChangeShapes Go.WideShapes Go.ChangeAt Go.RowKit

theorem own : ownKnob Tryz.prog.godebug = none := by kernel_rfl
theorem gES : Tryz.prog.globalNamed "strconv.ErrSyntax" = some 0 := by kernel_rfl
theorem gER : Tryz.prog.globalNamed "strconv.ErrRange" = some 1 := by kernel_rfl
theorem gTab : Tryz.prog.globalNamed "internal/strconv.uint64pow10" = some 2 := by kernel_rfl
theorem gESType : (Tryz.prog.globals[0]?).map (·.type) = some 69 := by kernel_rfl
theorem gERType : (Tryz.prog.globals[1]?).map (·.type) = some 69 := by kernel_rfl
theorem gTabType : (Tryz.prog.globals[2]?).map (·.type) = some 139 := by kernel_rfl
theorem cellsErr : Tryz.prog.cellsOf 137 = 1 := by kernel_rfl
theorem cellsStr : Tryz.prog.cellsOf 9 = 1 := by kernel_rfl
theorem cellsU64 : Tryz.prog.cellsOf 112 = 1 := by kernel_rfl
theorem cellsTab : Tryz.prog.cellsOf 139 = 20 := by kernel_rfl
theorem star : "*" ++ "errors.errorString" = "*errors.errorString" := by decide
/-- The one row of that name. -/
theorem rowErr (u : TypeId) (h : Tryz.prog.typeName? 3 u = some "*errors.errorString") : u = 135 :=
  typeName_ptr_named (nm := "errors.errorString") (by rw [star]; kernel_rfl) (by kernel_rfl) (by decide) u (by rw [star]; exact h)

/-- What the rows list. -/
def laid : List (String × DataW Unit) := [("math/bits.deBruijn32tab", Rows.laid_math_bits_deBruijn32tab), ("math/bits.deBruijn64tab", Rows.laid_math_bits_deBruijn64tab), ("internal/strconv.uint64pow10", Rows.laid_internal_strconv_uint64pow10), ("unicode/utf8.acceptRanges", Rows.laid_unicode_utf8_acceptRanges), ("strconv.ErrRange", Rows.laid_strconv_ErrRange), ("strconv.ErrSyntax", Rows.laid_strconv_ErrSyntax), ("unicode/utf8.first", Rows.laid_unicode_utf8_first)]

theorem tab_data : (Rows.laid_internal_strconv_uint64pow10 : DataW Unit) = Lib.tabData .u64 Lib.pow10Tab := rfl

theorem laid_gives {W : World} (h : laidMetH Tryz.prog laid W) : Tryz.Tab W ∧ Tryz.Errs W := by
  rw [MakeChecks.laidMetH_plain _ _ _ (by kernel_rfl)] at h
  have h2 := h.tail.tail
  rw [tab_data] at h2
  have ht : Tryz.Tab W := Lib.tabIs_of_head gTab gTabType Tryz.underlying139 Tryz.underlying112 cellsU64 cellsTab h2
  obtain ⟨a0, s0, hv0, -, -, -⟩ := laid_sentinel h.tail.tail.tail.tail gER gERType Tryz.underlying69 rowErr Tryz.underlying135 Tryz.underlying137 rfl rfl Tryz.underlying9 cellsErr cellsStr
  obtain ⟨a1, s1, hv1, -, -, -⟩ := laid_sentinel h.tail.tail.tail.tail.tail gES gESType Tryz.underlying69 rowErr Tryz.underlying135 Tryz.underlying137 rfl rfl Tryz.underlying9 cellsErr cellsStr
  exact ⟨ht, ⟨_, _, hv1⟩, ⟨_, _, hv0⟩⟩

end Go.Proofs.YtdjnkaeggnkgeaaGreatDoor
