/- What the laws of chapter 04 share: the arrays that come in, conditions on strings. -/
import Derived.Test.YtjjmabokoendbaaGreatDoorSaneR
import Derived.Test.YtjjmabokoendbaaGreatDoorQC
import Derived.Test.YtjjmabokoendbaaGreatDoorRatO
import Derived.Deep.Cut
namespace Go.Proofs.Dt
theorem agg_ne {x y x' y' : ByteArray} (h : ¬ (x = x' ∧ y = y')) : ((x.toList == x'.toList) && (y.toList == y'.toList)) = false := by
  by_cases hx : x = x'
  · have hy : y ≠ y' := fun e => h ⟨hx, e⟩
    rw [toList_ne hy, Bool.and_false]
  · rw [toList_ne hx]; rfl
theorem toList_inj {x y : ByteArray} (h : x.toList = y.toList) : x = y := bytes_ext (by rw [← toList_eq_data, ← toList_eq_data, h])
theorem ne_split {x y x' y' : ByteArray} (h : ¬ (x = x' ∧ y = y')) : (¬ x.toList = x'.toList) ∨ (x = x' ∧ ¬ y.toList = y'.toList) := by
  by_cases hx : x = x'
  · exact .inr ⟨hx, fun e => h ⟨hx, toList_inj e⟩⟩
  · exact .inl fun e => hx (toList_inj e)
theorem lim_mul {a b : Int} {i j : Nat} (ha : a.natAbs < 10 ^ i) (hb : b.natAbs < 10 ^ j) (h : i + j ≤ 200) : (a * b).natAbs < limit := by
  rw [Int.natAbs_mul]
  refine Nat.lt_of_lt_of_le (Nat.mul_lt_mul'' ha hb) ?_
  rw [← Nat.pow_add]
  exact Nat.pow_le_pow_right (by decide) h
end Go.Proofs.Dt
namespace Go.Proofs.Tryz
open Go.RowKit Go.Shelf Go.Proofs.Dt

abbrev AB4 (W : World) (k : Nat) (a b c d : Int) : Prop := W.heap[k]? = some (.cells #[.int .i64 a, .int .i64 b, .int .i64 c, .int .i64 d] 22 (0, 0))
abbrev AB2 (W : World) (k : Nat) (a b : Int) : Prop := W.heap[k]? = some (.cells #[.int .i64 a, .int .i64 b] 23 (0, 0))
section
variable {W W' : World} {k n : Nat} {a b c d : Int}
theorem AB4.lt (h : AB4 W k a b c d) : k < W.heap.size := (Array.getElem?_eq_some_iff.1 h).1
theorem AB4.c0 (h : AB4 W k a b c d) : W.cell? ⟨k, 0, none⟩ = some (.int .i64 a) := by rw [Lib.cell_of_heap h]; rfl
theorem AB4.c1 (h : AB4 W k a b c d) : W.cell? ⟨k, 1, none⟩ = some (.int .i64 b) := by rw [Lib.cell_of_heap h]; rfl
theorem AB4.c2 (h : AB4 W k a b c d) : W.cell? ⟨k, 2, none⟩ = some (.int .i64 c) := by rw [Lib.cell_of_heap h]; rfl
theorem AB4.c3 (h : AB4 W k a b c d) : W.cell? ⟨k, 3, none⟩ = some (.int .i64 d) := by rw [Lib.cell_of_heap h]; rfl
theorem AB4.below (h : AB4 W k a b c d) (hb : Below n W W') (hk : k < n) : AB4 W' k a b c d := (hb.block k hk).trans h
theorem AB2.lt (h : AB2 W k a b) : k < W.heap.size := (Array.getElem?_eq_some_iff.1 h).1
theorem AB2.c0 (h : AB2 W k a b) : W.cell? ⟨k, 0, none⟩ = some (.int .i64 a) := by rw [Lib.cell_of_heap h]; rfl
theorem AB2.c1 (h : AB2 W k a b) : W.cell? ⟨k, 1, none⟩ = some (.int .i64 b) := by rw [Lib.cell_of_heap h]; rfl
theorem AB2.below (h : AB2 W k a b) (hb : Below n W W') (hk : k < n) : AB2 W' k a b := (hb.block k hk).trans h
theorem alloc_get (W : World) (t : TypeId) (cs : Array Value) (n : Nat) (h : W.heap.size = n) : (W.alloc (.cells cs t)).heap[n]? = some (.cells cs t (0, 0)) := by subst h; exact World.alloc_heap_new W _
theorem alloc_kept {o : Obj} (h : W.heap[k]? = some o) (o' : Obj) : (W.alloc o').heap[k]? = some o := (Below.heap_alloc _ _ _ (Array.getElem?_eq_some_iff.1 h).1).trans h
end
/-- The sane check, in the laws' form. -/
theorem sane_to (w0 w : World) (ht : Hid (Tab w0)) (hm : Hid (Lens w0)) (hB : Since w0 w) : Calls Tryz.prog 11 #[] w fun e w' => e = .returned (.bool true) ∧ Since w w' :=
  sane_any w (hB.tab ht) (Lens.since hm hB)

end Go.Proofs.Tryz
