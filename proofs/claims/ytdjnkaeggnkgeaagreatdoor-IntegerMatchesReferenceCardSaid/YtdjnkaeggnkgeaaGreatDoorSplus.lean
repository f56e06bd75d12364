/- The sum of two signed numbers. -/
import Derived.Test.YtdjnkaeggnkgeaaGreatDoorBoth
import Derived.Test.YtdjnkaeggnkgeaaGreatDoorCmp
import Derived.Test.YtdjnkaeggnkgeaaGreatDoorTimes
import Derived.Deep.RegionHeld3
namespace Go.Proofs.Tryz
open Go.RowKit Go.Shelf Go.Proofs.Dt

/-- The number of a sign and a size. -/
def sv (neg : Bool) (m : Nat) : Int := if neg then -(m : Int) else m

/-- What returns a signed number. -/
def SgnPost (w : World) (n : Int) (e : Ending) (w' : World) : Prop := ∃ neg v m, e = .returned (.agg #[.bool neg, v]) ∧ Num w' v m ∧ sv neg m = n ∧ Below w.heap.size w w'

/-- Three variables of type signed: both arguments and the result. -/
structure Tri (w W : World) (na nb : Bool) (va vb : Value) : Prop where
  k0 : W.heap[w.heap.size]? = some (.cells #[.bool na, va] 50 (0, 0))
  k1 : W.heap[w.heap.size + 1]? = some (.cells #[.bool nb, vb] 50 (0, 0))
  k2 : W.heap[w.heap.size + 2]? = some (.cells #[.bool false, .slice none 0 0] 50 (0, 0))
  below : Below w.heap.size w W

section
variable {w W W' : World} {na nb : Bool} {va vb : Value}
theorem Tri.start (w : World) (na nb : Bool) (va vb : Value) : Tri w (((w.alloc (.cells #[.bool na, va] 50)).alloc (.cells #[.bool nb, vb] 50)).alloc (.cells #[.bool false, .slice none 0 0] 50)) na nb va vb := by
  have e2 : ((w.alloc (.cells #[.bool na, va] 50)).alloc (.cells #[.bool nb, vb] 50)).heap[w.heap.size + 1]? = some (.cells #[.bool nb, vb] 50 (0, 0)) := by
    simpa using heap_alloc_new (w.alloc (.cells #[.bool na, va] 50)) (.cells #[.bool nb, vb] 50)
  have e3 := heap_alloc_new ((w.alloc (.cells #[.bool na, va] 50)).alloc (.cells #[.bool nb, vb] 50)) (.cells #[.bool false, .slice none 0 0] 50)
  simp only [World.size_alloc] at e3
  exact ⟨(Lib.alloc_old _ _ _ (by simp; omega)).trans ((Lib.alloc_old _ _ _ (by simp)).trans (heap_alloc_new w _)), (Lib.alloc_old _ _ _ (by simp)).trans e2, e3, (((Below.refl _ w).alloc (Nat.le_refl _) _).alloc (by simp) _).alloc (by simp; omega) _⟩
theorem Tri.next (h : Tri w W na nb va vb) (hb : Below W.heap.size W W') : Tri w W' na nb va vb :=
  ⟨(hb.block _ (Array.getElem?_eq_some_iff.1 h.k0).1).trans h.k0, (hb.block _ (Array.getElem?_eq_some_iff.1 h.k1).1).trans h.k1, (hb.block _ (Array.getElem?_eq_some_iff.1 h.k2).1).trans h.k2, h.below.trans (hb.mono h.below.size)⟩
theorem Tri.c00 (h : Tri w W na nb va vb) : W.cell? ⟨w.heap.size, 0, none⟩ = some (.bool na) := by rw [Lib.cell_of_heap h.k0]; rfl
theorem Tri.c01 (h : Tri w W na nb va vb) : W.cell? ⟨w.heap.size, 1, none⟩ = some va := by rw [Lib.cell_of_heap h.k0]; rfl
theorem Tri.c10 (h : Tri w W na nb va vb) : W.cell? ⟨w.heap.size + 1, 0, none⟩ = some (.bool nb) := by rw [Lib.cell_of_heap h.k1]; rfl
theorem Tri.c11 (h : Tri w W na nb va vb) : W.cell? ⟨w.heap.size + 1, 1, none⟩ = some vb := by rw [Lib.cell_of_heap h.k1]; rfl
theorem Tri.c20 (h : Tri w W na nb va vb) : W.cell? ⟨w.heap.size + 1 + 1, 0, none⟩ = some (.bool false) := by rw [Lib.cell_of_heap h.k2]; rfl
theorem Tri.c21 (h : Tri w W na nb va vb) : W.cell? ⟨w.heap.size + 1 + 1, 1, none⟩ = some (.slice none 0 0) := by rw [Lib.cell_of_heap h.k2]; rfl
theorem Tri.f2 (h : Tri w W na nb va vb) (i : Nat) : W.frozen? ⟨w.heap.size + 1 + 1, i, none⟩ = false := Lib.frozen_of_heap h.k2 i

theorem Tri.all (h : Tri w W na nb va vb) : W.cell? ⟨w.heap.size, 0, none⟩ = some (.bool na) ∧ W.cell? ⟨w.heap.size, 1, none⟩ = some va ∧ W.cell? ⟨w.heap.size + 1, 0, none⟩ = some (.bool nb) ∧ W.cell? ⟨w.heap.size + 1, 1, none⟩ = some vb := ⟨h.c00, h.c01, h.c10, h.c11⟩
theorem Tri.all2 (h : Tri w W na nb va vb) (x y : Value) : ((W.setCell ⟨w.heap.size + 1 + 1, 0, none⟩ x).setCell ⟨w.heap.size + 1 + 1, 1, none⟩ y).cell? ⟨w.heap.size, 0, none⟩ = some (.bool na) ∧ ((W.setCell ⟨w.heap.size + 1 + 1, 0, none⟩ x).setCell ⟨w.heap.size + 1 + 1, 1, none⟩ y).cell? ⟨w.heap.size, 1, none⟩ = some va ∧ ((W.setCell ⟨w.heap.size + 1 + 1, 0, none⟩ x).setCell ⟨w.heap.size + 1 + 1, 1, none⟩ y).cell? ⟨w.heap.size + 1, 0, none⟩ = some (.bool nb) ∧ ((W.setCell ⟨w.heap.size + 1 + 1, 0, none⟩ x).setCell ⟨w.heap.size + 1 + 1, 1, none⟩ y).cell? ⟨w.heap.size + 1, 1, none⟩ = some vb := by
  have far : ∀ (p : Addr), p.block < w.heap.size + 1 + 1 → ((W.setCell ⟨w.heap.size + 1 + 1, 0, none⟩ x).setCell ⟨w.heap.size + 1 + 1, 1, none⟩ y).cell? p = W.cell? p := fun p hp => by
    rw [World.cell?_setCell_far _ _ _ _ (by show w.heap.size + 1 + 1 ≠ p.block; omega), World.cell?_setCell_far _ _ _ _ (by show w.heap.size + 1 + 1 ≠ p.block; omega)]
  exact ⟨(far _ (by simp; omega)).trans h.c00, (far _ (by simp; omega)).trans h.c01, (far _ (by simp)).trans h.c10, (far _ (by simp)).trans h.c11⟩

/-- The result, when it has been stored. -/
theorem Tri.done (h : Tri w W na nb va vb) (nc : Bool) (vc : Value) : ((W.setCell ⟨w.heap.size + 1 + 1, 0, none⟩ (.bool nc)).setCell ⟨w.heap.size + 1 + 1, 1, none⟩ vc).heap[w.heap.size + 1 + 1]? = some (.cells #[.bool nc, vc] 50 (0, 0)) := by
  have := h.k2
  simp [World.setCell, Array.getElem?_modify, this]
theorem Tri.num (h : Tri w W na nb va vb) (nc : Bool) (vc : Value) {v : Value} {n : Nat} (hn : Num W v n) : Num ((W.setCell ⟨w.heap.size + 1 + 1, 0, none⟩ (.bool nc)).setCell ⟨w.heap.size + 1 + 1, 1, none⟩ vc) v n := by
  have h1 := hn.setNot h.c20 (fun i e => by cases e) (.bool nc)
  refine h1.setNot (c := .slice none 0 0) ?_ (fun i e => by cases e) vc
  rw [World.cell?_setCell_other _ _ _ _ (by simp)]
  exact h.c21
theorem Tri.bel (h : Tri w W na nb va vb) (nc : Bool) (vc : Value) : Below w.heap.size w ((W.setCell ⟨w.heap.size + 1 + 1, 0, none⟩ (.bool nc)).setCell ⟨w.heap.size + 1 + 1, 1, none⟩ vc) :=
  (h.below.setCell (p := ⟨w.heap.size + 1 + 1, 0, none⟩) (by show w.heap.size ≤ w.heap.size + 1 + 1; omega) _).setCell (p := ⟨w.heap.size + 1 + 1, 1, none⟩) (by show w.heap.size ≤ w.heap.size + 1 + 1; omega) _
end

set_option maxHeartbeats 4000000 in
set_option maxRecDepth 100000 in
theorem splus_any (na nb : Bool) (va vb : Value) (a b : Nat) (w : World) (ha : Num w va a) (hb : Num w vb b) (fa : Fits a) (fb : Fits b) :
    Calls Tryz.prog 39 #[.agg #[.bool na, va], .agg #[.bool nb, vb]] w (SgnPost w (sv na a + sv nb b)) := by
  obtain ⟨aa, la, ca, rfl⟩ := ha.shape
  obtain ⟨ab, lb, cb, rfl⟩ := hb.shape
  have hst := Lib.hid (Tri.start w na nb (.slice aa la ca) (.slice ab lb cb))
  have mixed : Tryz.prog.follows .mixedOrders = true := by kernel_rfl
  have FA := Lib.hid fa
  have FB := Lib.hid fb
  have HA := Lib.hid ha
  have HB := Lib.hid hb
  clear fa fb ha hb
  cases hnn : (na == nb) with
  | true =>
    have hnab : Hid (na = nb) := by show _ = _; cases na <;> cases nb <;> first | rfl | cases hnn
    go_enter Tryz.func39, Tryz.ntmps39
    go_wp2
    generalize (((w.alloc (.cells #[.bool na, .slice aa la ca] 50)).alloc (.cells #[.bool nb, .slice ab lb cb] 50)).alloc (.cells #[.bool false, .slice none 0 0] 50)) = W1 at hst ⊢
    have D0 := hst.out.next (W' := W1.drew) ⟨rfl, rfl, rfl, Nat.le_refl _, fun _ _ => rfl⟩
    have HP := Lib.hid (plus_any _ _ a b W1.drew (HA.out.below (Nat.le_refl _) D0.below) (HB.out.below (Nat.le_refl _) D0.below) FA.out FB.out)
    go_region_held3 (fun w' => w'.cell? ⟨w.heap.size, 0, none⟩ = some (.bool na) ∧ w'.cell? ⟨w.heap.size, 1, none⟩ = some (.slice aa la ca) ∧ w'.cell? ⟨w.heap.size + 1, 0, none⟩ = some (.bool nb) ∧ w'.cell? ⟨w.heap.size + 1, 1, none⟩ = some (.slice ab lb cb))
      (first | exact D0.all | exact T1.all | exact T1.all2 _ _)
      (first | (go_at_call 43; refine HP.out.mono ?_; rintro e w1 ⟨r, rfl, hr, _, hb1⟩; obtain ⟨ar, lr, cr, rfl⟩ := hr.shape; have T1 := D0.next hb1; have c20 := T1.c20; have c21 := T1.c21; have f20 := T1.f2 0; have f21 := T1.f2 1))
    go_wp2
    refine bodyPost_ret (results_cell_row (p := 4) (ty := 50) (by kernel_rfl) _ _ (w.heap.size + 1 + 1) 50 _ (0, 0) _ rfl (T1.done na _) Tryz.underlying50 rfl (by kernel_rfl)) rfl ?_
    exact ⟨na, _, _, rfl, T1.num _ _ hr, by rw [← hnab.out]; unfold sv; split <;> omega, T1.bel _ _⟩
  | false =>
    have hnab : Hid (na = !nb) := by show _ = _; cases na <;> cases nb <;> first | rfl | cases hnn
    go_enter Tryz.func39, Tryz.ntmps39
    go_wp2_with fail
    generalize (((w.alloc (.cells #[.bool na, .slice aa la ca] 50)).alloc (.cells #[.bool nb, .slice ab lb cb] 50)).alloc (.cells #[.bool false, .slice none 0 0] 50)) = W1 at hst ⊢
    have HCM := Lib.hid (compare_any _ _ a b W1 (HA.out.below (Nat.le_refl _) hst.out.below) (HB.out.below (Nat.le_refl _) hst.out.below) FA.out)
    obtain ⟨c, hc⟩ : ∃ c, c = cmpI (a : Int) (b : Int) := ⟨_, rfl⟩
    rw [← hc] at HCM
    by_cases hab : b ≤ a
    · have hc0 : 0 ≤ c := by rw [hc]; unfold cmpI; rw [if_neg (by omega)]; split <;> omega
      have HAB := Lib.hid hab
      clear hc hab
      refine HCM.out.mono ?_
      rintro e w2 ⟨rfl, hbc⟩
      have D1 := hst.out.next hbc
      have d00 := D1.c00; have d01 := D1.c01; have d10 := D1.c10; have d11 := D1.c11
      go_wp2
      have D0 := D1.next (W' := w2.drew) ⟨rfl, rfl, rfl, Nat.le_refl _, fun _ _ => rfl⟩
      have HP := Lib.hid (minus_any _ _ a b w2.drew (HA.out.below (Nat.le_refl _) D0.below) (HB.out.below (Nat.le_refl _) D0.below) FA.out HAB.out)
      go_region_held3 (fun w' => w'.cell? ⟨w.heap.size, 0, none⟩ = some (.bool na) ∧ w'.cell? ⟨w.heap.size, 1, none⟩ = some (.slice aa la ca) ∧ w'.cell? ⟨w.heap.size + 1, 0, none⟩ = some (.bool nb) ∧ w'.cell? ⟨w.heap.size + 1, 1, none⟩ = some (.slice ab lb cb))
        (first | exact D0.all | exact T1.all | exact T1.all2 _ _)
        (first | (go_at_call 45; refine HP.out.mono ?_; rintro e w1 ⟨r, rfl, hr, _, hb1⟩; obtain ⟨ar, lr, cr, rfl⟩ := hr.shape; have T1 := D0.next hb1; have c20 := T1.c20; have c21 := T1.c21; have f20 := T1.f2 0; have f21 := T1.f2 1))
      go_wp2
      refine bodyPost_ret (results_cell_row (p := 4) (ty := 50) (by kernel_rfl) _ _ (w.heap.size + 1 + 1) 50 _ (0, 0) _ rfl (T1.done na _) Tryz.underlying50 rfl (by kernel_rfl)) rfl ?_
      exact ⟨na, _, _, rfl, T1.num _ _ hr, by rw [hnab.out]; have := HAB.out; unfold sv; cases nb <;> simp <;> omega, T1.bel _ _⟩
    · have hc0 : c < 0 := by rw [hc]; unfold cmpI; rw [if_pos (by omega)]; omega
      have HAB := Lib.hid (show a ≤ b by omega)
      clear hc hab
      refine HCM.out.mono ?_
      rintro e w2 ⟨rfl, hbc⟩
      have D1 := hst.out.next hbc
      have d00 := D1.c00; have d01 := D1.c01; have d10 := D1.c10; have d11 := D1.c11
      go_wp2
      have D0 := D1.next (W' := w2.drew) ⟨rfl, rfl, rfl, Nat.le_refl _, fun _ _ => rfl⟩
      have HP := Lib.hid (minus_any _ _ b a w2.drew (HB.out.below (Nat.le_refl _) D0.below) (HA.out.below (Nat.le_refl _) D0.below) FB.out HAB.out)
      go_region_held3 (fun w' => w'.cell? ⟨w.heap.size, 0, none⟩ = some (.bool na) ∧ w'.cell? ⟨w.heap.size, 1, none⟩ = some (.slice aa la ca) ∧ w'.cell? ⟨w.heap.size + 1, 0, none⟩ = some (.bool nb) ∧ w'.cell? ⟨w.heap.size + 1, 1, none⟩ = some (.slice ab lb cb))
        (first | exact D0.all | exact T1.all | exact T1.all2 _ _)
        (first | (go_at_call 45; refine HP.out.mono ?_; rintro e w1 ⟨r, rfl, hr, _, hb1⟩; obtain ⟨ar, lr, cr, rfl⟩ := hr.shape; have T1 := D0.next hb1; have c20 := T1.c20; have c21 := T1.c21; have f20 := T1.f2 0; have f21 := T1.f2 1))
      go_wp2
      refine bodyPost_ret (results_cell_row (p := 4) (ty := 50) (by kernel_rfl) _ _ (w.heap.size + 1 + 1) 50 _ (0, 0) _ rfl (T1.done nb _) Tryz.underlying50 rfl (by kernel_rfl)) rfl ?_
      exact ⟨nb, _, _, rfl, T1.num _ _ hr, by rw [hnab.out]; have := HAB.out; unfold sv; cases nb <;> simp <;> omega, T1.bel _ _⟩

end Go.Proofs.Tryz
