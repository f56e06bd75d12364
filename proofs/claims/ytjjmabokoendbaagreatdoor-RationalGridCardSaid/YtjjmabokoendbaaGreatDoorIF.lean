/- The sum of two signed numbers.
Add, Sub, Mul, Compare, Valid, FromInt: what they return.
Mul: what it returns.
Compare, Valid, FromInt: what they return.
ToInt: what it returns. -/
import Derived.Test.YtjjmabokoendbaaGreatDoorID
import Derived.Test.YtjjmabokoendbaaGreatDoorIB
import Derived.Deep.RegionHeld3
import Derived.Test.YtjjmabokoendbaaGreatDoorIE
namespace Go.Proofs.Tryz
open Go.RowKit Go.Shelf Go.Proofs.Dt

/-- The number of a sign and a size. -/
def sv (neg : Bool) (m : Nat) : Int := if neg then -(m : Int) else m

/-- What returns a signed number. -/
def SgnPost (w : World) (n : Int) (e : Ending) (w' : World) : Prop := ∃ neg v m, e = .returned (.agg #[.bool neg, v]) ∧ Num w' v m ∧ sv neg m = n ∧ Below w.heap.size w w'

/-- Three variables of type signed: both arguments and the result. -/
structure Tri (w W : World) (na nb : Bool) (va vb : Value) : Prop where
  k0 : W.heap[w.heap.size]? = some (.cells #[.bool na, va] 91 (0, 0))
  k1 : W.heap[w.heap.size + 1]? = some (.cells #[.bool nb, vb] 91 (0, 0))
  k2 : W.heap[w.heap.size + 2]? = some (.cells #[.bool false, .slice none 0 0] 91 (0, 0))
  below : Below w.heap.size w W

section
variable {w W W' : World} {na nb : Bool} {va vb : Value}
theorem Tri.start (w : World) (na nb : Bool) (va vb : Value) : Tri w (((w.alloc (.cells #[.bool na, va] 91)).alloc (.cells #[.bool nb, vb] 91)).alloc (.cells #[.bool false, .slice none 0 0] 91)) na nb va vb := by
  have e2 : ((w.alloc (.cells #[.bool na, va] 91)).alloc (.cells #[.bool nb, vb] 91)).heap[w.heap.size + 1]? = some (.cells #[.bool nb, vb] 91 (0, 0)) := by
    simpa using heap_alloc_new (w.alloc (.cells #[.bool na, va] 91)) (.cells #[.bool nb, vb] 91)
  have e3 := heap_alloc_new ((w.alloc (.cells #[.bool na, va] 91)).alloc (.cells #[.bool nb, vb] 91)) (.cells #[.bool false, .slice none 0 0] 91)
  simp only [World.size_alloc] at e3
  exact ⟨(Lib.alloc_old _ _ _ (by simp; omega)).trans ((Lib.alloc_old _ _ _ (by simp)).trans (heap_alloc_new w _)), (Lib.alloc_old _ _ _ (by simp)).trans e2, e3, (((Below.refl _ w).alloc (Nat.le_refl _) _).alloc (by simp) _).alloc (by simp; omega) _⟩
theorem Tri.next (h : Tri w W na nb va vb) (hb : Below W.heap.size W W') : Tri w W' na nb va vb :=
  ⟨(hb.block _ (Array.getElem?_eq_some_iff.1 h.k0).1).trans h.k0, (hb.block _ (Array.getElem?_eq_some_iff.1 h.k1).1).trans h.k1, (hb.block _ (Array.getElem?_eq_some_iff.1 h.k2).1).trans h.k2, h.below.trans (hb.mono h.below.size)⟩
theorem Tri.c00 (h : Tri w W na nb va vb) : W.cell? ⟨w.heap.size, 0, none⟩ = some (.bool na) := by rw [Lib.cell_of_heap h.k0]; rfl
theorem Tri.c01 (h : Tri w W na nb va vb) : W.cell? ⟨w.heap.size, 1, none⟩ = some va := by rw [Lib.cell_of_heap h.k0]; rfl
theorem Tri.c10 (h : Tri w W na nb va vb) : W.cell? ⟨w.heap.size + 1, 0, none⟩ = some (.bool nb) := by rw [Lib.cell_of_heap h.k1]; rfl
theorem Tri.c11 (h : Tri w W na nb va vb) : W.cell? ⟨w.heap.size + 1, 1, none⟩ = some vb := by rw [Lib.cell_of_heap h.k1]; rfl
theorem Tri.c20 (h : Tri w W na nb va vb) : W.cell? ⟨w.heap.size + 1 + 1, 0, none⟩ = some (.bool false) := by rw [Lib.cell_of_heap h.k2]; rfl
theorem Tri.c21 (h : Tri w W na nb va vb) : W.cell? ⟨w.heap.size + 1 + 1, 1, none⟩ = some (.slice none 0 0) := by rw [Lib.cell_of_heap h.k2]; rfl
theorem Tri.f2 (h : Tri w W na nb va vb) (i : Nat) : W.frozen? ⟨w.heap.size + 1 + 1, i, none⟩ = false := Lib.frozen_of_heap h.k2 i

theorem Tri.all (h : Tri w W na nb va vb) : W.cell? ⟨w.heap.size, 0, none⟩ = some (.bool na) ∧ W.cell? ⟨w.heap.size, 1, none⟩ = some va ∧ W.cell? ⟨w.heap.size + 1, 0, none⟩ = some (.bool nb) ∧ W.cell? ⟨w.heap.size + 1, 1, none⟩ = some vb := ⟨h.c00, h.c01, h.c10, h.c11⟩
theorem Tri.all2 (h : Tri w W na nb va vb) (x y : Value) : ((W.setCell ⟨w.heap.size + 1 + 1, 0, none⟩ x).setCell ⟨w.heap.size + 1 + 1, 1, none⟩ y).cell? ⟨w.heap.size, 0, none⟩ = some (.bool na) ∧ ((W.setCell ⟨w.heap.size + 1 + 1, 0, none⟩ x).setCell ⟨w.heap.size + 1 + 1, 1, none⟩ y).cell? ⟨w.heap.size, 1, none⟩ = some va ∧ ((W.setCell ⟨w.heap.size + 1 + 1, 0, none⟩ x).setCell ⟨w.heap.size + 1 + 1, 1, none⟩ y).cell? ⟨w.heap.size + 1, 0, none⟩ = some (.bool nb) ∧ ((W.setCell ⟨w.heap.size + 1 + 1, 0, none⟩ x).setCell ⟨w.heap.size + 1 + 1, 1, none⟩ y).cell? ⟨w.heap.size + 1, 1, none⟩ = some vb := by
  have far : ∀ (p : Addr), p.block < w.heap.size + 1 + 1 → ((W.setCell ⟨w.heap.size + 1 + 1, 0, none⟩ x).setCell ⟨w.heap.size + 1 + 1, 1, none⟩ y).cell? p = W.cell? p := fun p hp => by
    rw [World.cell?_setCell_far _ _ _ _ (by show w.heap.size + 1 + 1 ≠ p.block; omega), World.cell?_setCell_far _ _ _ _ (by show w.heap.size + 1 + 1 ≠ p.block; omega)]
  exact ⟨(far _ (by simp; omega)).trans h.c00, (far _ (by simp; omega)).trans h.c01, (far _ (by simp)).trans h.c10, (far _ (by simp)).trans h.c11⟩

/-- The result, when it has been stored. -/
theorem Tri.done (h : Tri w W na nb va vb) (nc : Bool) (vc : Value) : ((W.setCell ⟨w.heap.size + 1 + 1, 0, none⟩ (.bool nc)).setCell ⟨w.heap.size + 1 + 1, 1, none⟩ vc).heap[w.heap.size + 1 + 1]? = some (.cells #[.bool nc, vc] 91 (0, 0)) := by
  have := h.k2
  simp [World.setCell, Array.getElem?_modify, this]
theorem Tri.num (h : Tri w W na nb va vb) (nc : Bool) (vc : Value) {v : Value} {n : Nat} (hn : Num W v n) : Num ((W.setCell ⟨w.heap.size + 1 + 1, 0, none⟩ (.bool nc)).setCell ⟨w.heap.size + 1 + 1, 1, none⟩ vc) v n := by
  have h1 := hn.setNot h.c20 (fun i e => by cases e) (.bool nc)
  refine h1.setNot (c := .slice none 0 0) ?_ (fun i e => by cases e) vc
  rw [World.cell?_setCell_other _ _ _ _ (by simp)]
  exact h.c21
theorem Tri.bel (h : Tri w W na nb va vb) (nc : Bool) (vc : Value) : Below w.heap.size w ((W.setCell ⟨w.heap.size + 1 + 1, 0, none⟩ (.bool nc)).setCell ⟨w.heap.size + 1 + 1, 1, none⟩ vc) :=
  (h.below.setCell (p := ⟨w.heap.size + 1 + 1, 0, none⟩) (by show w.heap.size ≤ w.heap.size + 1 + 1; omega) _).setCell (p := ⟨w.heap.size + 1 + 1, 1, none⟩) (by show w.heap.size ≤ w.heap.size + 1 + 1; omega) _
end

set_option maxHeartbeats 4000000 in
set_option maxRecDepth 100000 in
theorem splus_any (na nb : Bool) (va vb : Value) (a b : Nat) (w : World) (ha : Num w va a) (hb : Num w vb b) (fa : Fits a) (fb : Fits b) :
    Calls Tryz.prog 82 #[.agg #[.bool na, va], .agg #[.bool nb, vb]] w (SgnPost w (sv na a + sv nb b)) := by
  obtain ⟨aa, la, ca, rfl⟩ := ha.shape
  obtain ⟨ab, lb, cb, rfl⟩ := hb.shape
  have hst := Lib.hid (Tri.start w na nb (.slice aa la ca) (.slice ab lb cb))
  have mixed : Tryz.prog.follows .mixedOrders = true := by kernel_rfl
  have FA := Lib.hid fa
  have FB := Lib.hid fb
  have HA := Lib.hid ha
  have HB := Lib.hid hb
  clear fa fb ha hb
  cases hnn : (na == nb) with
  | true =>
    have hnab : Hid (na = nb) := by show _ = _; cases na <;> cases nb <;> first | rfl | cases hnn
    go_enter Tryz.func82, Tryz.ntmps82
    go_wp2
    generalize (((w.alloc (.cells #[.bool na, .slice aa la ca] 91)).alloc (.cells #[.bool nb, .slice ab lb cb] 91)).alloc (.cells #[.bool false, .slice none 0 0] 91)) = W1 at hst ⊢
    have D0 := hst.out.next (W' := W1.drew) ⟨rfl, rfl, rfl, Nat.le_refl _, fun _ _ => rfl⟩
    have HP := Lib.hid (plus_any _ _ a b W1.drew (HA.out.below (Nat.le_refl _) D0.below) (HB.out.below (Nat.le_refl _) D0.below) FA.out FB.out)
    go_region_held3 (fun w' => w'.cell? ⟨w.heap.size, 0, none⟩ = some (.bool na) ∧ w'.cell? ⟨w.heap.size, 1, none⟩ = some (.slice aa la ca) ∧ w'.cell? ⟨w.heap.size + 1, 0, none⟩ = some (.bool nb) ∧ w'.cell? ⟨w.heap.size + 1, 1, none⟩ = some (.slice ab lb cb))
      (first | exact D0.all | exact T1.all | exact T1.all2 _ _)
      (first | (go_at_call 76; refine HP.out.mono ?_; rintro e w1 ⟨r, rfl, hr, _, hb1⟩; obtain ⟨ar, lr, cr, rfl⟩ := hr.shape; have T1 := D0.next hb1; have c20 := T1.c20; have c21 := T1.c21; have f20 := T1.f2 0; have f21 := T1.f2 1))
    go_wp2
    refine bodyPost_ret (results_cell_row (p := 4) (ty := 91) (by kernel_rfl) _ _ (w.heap.size + 1 + 1) 91 _ (0, 0) _ rfl (T1.done na _) Tryz.underlying91 rfl (by kernel_rfl)) rfl ?_
    exact ⟨na, _, _, rfl, T1.num _ _ hr, by rw [← hnab.out]; unfold sv; split <;> omega, T1.bel _ _⟩
  | false =>
    have hnab : Hid (na = !nb) := by show _ = _; cases na <;> cases nb <;> first | rfl | cases hnn
    go_enter Tryz.func82, Tryz.ntmps82
    go_wp2_with fail
    generalize (((w.alloc (.cells #[.bool na, .slice aa la ca] 91)).alloc (.cells #[.bool nb, .slice ab lb cb] 91)).alloc (.cells #[.bool false, .slice none 0 0] 91)) = W1 at hst ⊢
    have HCM := Lib.hid (compare_any _ _ a b W1 (HA.out.below (Nat.le_refl _) hst.out.below) (HB.out.below (Nat.le_refl _) hst.out.below) FA.out)
    obtain ⟨c, hc⟩ : ∃ c, c = cmpI (a : Int) (b : Int) := ⟨_, rfl⟩
    rw [← hc] at HCM
    by_cases hab : b ≤ a
    · have hc0 : 0 ≤ c := by rw [hc]; unfold cmpI; rw [if_neg (by omega)]; split <;> omega
      have HAB := Lib.hid hab
      clear hc hab
      refine HCM.out.mono ?_
      rintro e w2 ⟨rfl, hbc⟩
      have D1 := hst.out.next hbc
      have d00 := D1.c00; have d01 := D1.c01; have d10 := D1.c10; have d11 := D1.c11
      go_wp2
      have D0 := D1.next (W' := w2.drew) ⟨rfl, rfl, rfl, Nat.le_refl _, fun _ _ => rfl⟩
      have HP := Lib.hid (minus_any _ _ a b w2.drew (HA.out.below (Nat.le_refl _) D0.below) (HB.out.below (Nat.le_refl _) D0.below) FA.out HAB.out)
      go_region_held3 (fun w' => w'.cell? ⟨w.heap.size, 0, none⟩ = some (.bool na) ∧ w'.cell? ⟨w.heap.size, 1, none⟩ = some (.slice aa la ca) ∧ w'.cell? ⟨w.heap.size + 1, 0, none⟩ = some (.bool nb) ∧ w'.cell? ⟨w.heap.size + 1, 1, none⟩ = some (.slice ab lb cb))
        (first | exact D0.all | exact T1.all | exact T1.all2 _ _)
        (first | (go_at_call 78; refine HP.out.mono ?_; rintro e w1 ⟨r, rfl, hr, _, hb1⟩; obtain ⟨ar, lr, cr, rfl⟩ := hr.shape; have T1 := D0.next hb1; have c20 := T1.c20; have c21 := T1.c21; have f20 := T1.f2 0; have f21 := T1.f2 1))
      go_wp2
      refine bodyPost_ret (results_cell_row (p := 4) (ty := 91) (by kernel_rfl) _ _ (w.heap.size + 1 + 1) 91 _ (0, 0) _ rfl (T1.done na _) Tryz.underlying91 rfl (by kernel_rfl)) rfl ?_
      exact ⟨na, _, _, rfl, T1.num _ _ hr, by rw [hnab.out]; have := HAB.out; unfold sv; cases nb <;> simp <;> omega, T1.bel _ _⟩
    · have hc0 : c < 0 := by rw [hc]; unfold cmpI; rw [if_pos (by omega)]; omega
      have HAB := Lib.hid (show a ≤ b by omega)
      clear hc hab
      refine HCM.out.mono ?_
      rintro e w2 ⟨rfl, hbc⟩
      have D1 := hst.out.next hbc
      have d00 := D1.c00; have d01 := D1.c01; have d10 := D1.c10; have d11 := D1.c11
      go_wp2
      have D0 := D1.next (W' := w2.drew) ⟨rfl, rfl, rfl, Nat.le_refl _, fun _ _ => rfl⟩
      have HP := Lib.hid (minus_any _ _ b a w2.drew (HB.out.below (Nat.le_refl _) D0.below) (HA.out.below (Nat.le_refl _) D0.below) FB.out HAB.out)
      go_region_held3 (fun w' => w'.cell? ⟨w.heap.size, 0, none⟩ = some (.bool na) ∧ w'.cell? ⟨w.heap.size, 1, none⟩ = some (.slice aa la ca) ∧ w'.cell? ⟨w.heap.size + 1, 0, none⟩ = some (.bool nb) ∧ w'.cell? ⟨w.heap.size + 1, 1, none⟩ = some (.slice ab lb cb))
        (first | exact D0.all | exact T1.all | exact T1.all2 _ _)
        (first | (go_at_call 78; refine HP.out.mono ?_; rintro e w1 ⟨r, rfl, hr, _, hb1⟩; obtain ⟨ar, lr, cr, rfl⟩ := hr.shape; have T1 := D0.next hb1; have c20 := T1.c20; have c21 := T1.c21; have f20 := T1.f2 0; have f21 := T1.f2 1))
      go_wp2
      refine bodyPost_ret (results_cell_row (p := 4) (ty := 91) (by kernel_rfl) _ _ (w.heap.size + 1 + 1) 91 _ (0, 0) _ rfl (T1.done nb _) Tryz.underlying91 rfl (by kernel_rfl)) rfl ?_
      exact ⟨nb, _, _, rfl, T1.num _ _ hr, by rw [hnab.out]; have := HAB.out; unfold sv; cases nb <;> simp <;> omega, T1.bel _ _⟩

end Go.Proofs.Tryz

namespace Go.Proofs.Tryz
open Go.RowKit Go.Shelf Go.Proofs.Dt

theorem limit_eq : limit = 10000 ^ 50 := by
  unfold limit
  rw [show (10000 : Nat) = 10 ^ 4 by decide, ← Nat.pow_mul]

theorem lim_of {n : Nat} (h : n < limit) : Lim 50 n := by rw [Lim.iff, ← limit_eq]; exact h
theorem lim_num {s : ByteArray} (h : valid s.data.toList = true) : Lim 50 (num s.data.toList).natAbs := lim_of (num_lt h)

theorem textS_sv (neg : Bool) (m : Nat) : textS neg m = res (sv neg m) := textS_res neg m
theorem sv_abs (neg : Bool) (m : Nat) : (sv neg m).natAbs = m := by unfold sv; split <;> omega
theorem sv_num (n : Int) : sv (decide (n < 0)) n.natAbs = n := by
  unfold sv
  by_cases h : n < 0
  · rw [if_pos (by simpa using h)]; omega
  · rw [if_neg (by simpa using h)]; omega

/-- A string and an error code. -/
def pairV (p : List UInt8 × Int) : Value := .tuple #[.string ⟨p.1.toArray⟩, .int .i64 p.2]

/-- What an operation on two strings returns. -/
def OpPost (w : World) (p : List UInt8 × Int) (e : Ending) (w' : World) : Prop := e = .returned (pairV p) ∧ Below w.heap.size w w'

theorem bin_no {f : Int → Int → Int} {s t : List UInt8} (h : (valid s && valid t) = false) : bin f s t = ([], 30) := by unfold bin; rw [h]; rfl
theorem bin_yes {f : Int → Int → Int} {s t : List UInt8} (h : valid s = true) (k : valid t = true) : bin f s t = res (f (num s) (num t)) := by unfold bin; rw [h, k]; rfl

/-- 'text' of a number. -/
theorem text_res {neg : Bool} {v : Value} {m : Nat} {W : World} {n : Int} (hm : Num W v m) (hsv : sv neg m = n) (hl : Lim 400 n.natAbs) (ht : Tab W) : Calls Tryz.prog 79 #[.agg #[.bool neg, v]] W (OpPost W (res n)) := by
  have e : m = n.natAbs := by rw [← hsv, sv_abs]
  refine (text_any neg v m W hm (by rw [e]; exact hl) ht).mono ?_
  rintro e w' ⟨rfl, hb⟩
  rw [textS_sv, hsv]
  exact ⟨rfl, hb⟩

theorem lim_add {x y : Int} (hx : Lim 50 x.natAbs) (hy : Lim 50 y.natAbs) : Lim 400 (x + y).natAbs := ((hx.add hy).le (by omega)).mono (by omega)
theorem lim_sub {x y : Int} (hx : Lim 50 x.natAbs) (hy : Lim 50 y.natAbs) : Lim 400 (x - y).natAbs := ((hx.add hy).le (by omega)).mono (by omega)
theorem lim_mul {x y : Int} (hx : Lim 50 x.natAbs) (hy : Lim 50 y.natAbs) : Lim 400 (x * y).natAbs := by rw [Int.natAbs_mul]; exact (hx.mul hy).mono (by omega)

theorem sv_mul (p q : Bool) (m n : Nat) : sv (p != q) (m * n) = sv p m * sv q n := by cases p <;> cases q <;> simp [sv, Int.natCast_mul, Int.neg_mul, Int.mul_neg]

theorem sv_not (neg : Bool) (m : Nat) : sv (!neg) m = -sv neg m := by cases neg <;> simp [sv]

set_option maxHeartbeats 4000000 in
set_option maxRecDepth 100000 in
theorem add_any (s t : ByteArray) (w : World) (ht : Tab w) : Calls Tryz.prog 51 #[.string s, .string t] w (OpPost w (addS s.data.toList t.data.toList)) := by
  have HT := Lib.hid ht
  clear ht
  go_enter Tryz.func51, Tryz.ntmps51
  go_wp2_with fail
  refine (both_any s t w).mono ?_
  rintro e w1 (⟨hs, ht, x, y, rfl, ⟨rx, rfl, nx⟩, ⟨ry, rfl, ny⟩, hb1⟩ | ⟨hno, rfl, hb1⟩)
  · have HS := Lib.hid hs
    have HU := Lib.hid ht
    have LX := Lib.hid (lim_num hs)
    have LY := Lib.hid (lim_num ht)
    obtain ⟨ax, lx, cx, rfl⟩ := nx.shape
    obtain ⟨ay, ly, cy, rfl⟩ := ny.shape
    have S1 := Two.start w1 (.bool (decide (num s.data.toList < 0))) (.slice ax lx cx) (.bool (decide (num t.data.toList < 0))) (.slice ay ly cy)
    have HN := Lib.hid (splus_any (decide (num s.data.toList < 0)) (decide (num t.data.toList < 0)) _ _ _ _ _ (nx.below (Nat.le_refl _) S1.below) (ny.below (Nat.le_refl _) S1.below) (LX.out.fits (by omega)) (LY.out.fits (by omega)))
    rw [sv_num, sv_num] at HN
    have HB := Lib.hid (hb1.trans (S1.below.mono hb1.size))
    clear hs ht nx ny S1 hb1
    go_wp2_with fail
    refine HN.out.mono ?_
    rintro e w2 ⟨neg, v, m, rfl, hm, hsv, hb2⟩
    have HB2 := Lib.hid (HB.out.trans (hb2.mono HB.out.size))
    have HR := Lib.hid (text_res hm hsv (lim_add LX.out LY.out) (HT.out.below HB2.out))
    clear hm hsv hb2
    go_wp2_with fail
    refine HR.out.mono ?_
    rintro e w3 ⟨rfl, hb3⟩
    have HB3 := Lib.hid (HB2.out.trans (hb3.mono HB2.out.size))
    clear hb3
    unfold pairV
    go_wp2
    go_ret2
    exact ⟨by unfold addS; rw [bin_yes HS.out HU.out]; rfl, HB3.out⟩
  · have HNO := Lib.hid hno
    clear hno
    go_wp2
    go_ret2
    exact ⟨by unfold addS; rw [bin_no HNO.out]; rfl, hb1.trans (((Below.refl _ w1).alloc (Nat.le_refl _) _).alloc (by simp) _ |>.mono hb1.size)⟩

set_option maxHeartbeats 4000000 in
set_option maxRecDepth 100000 in
theorem sub_any (s t : ByteArray) (w : World) (ht : Tab w) : Calls Tryz.prog 50 #[.string s, .string t] w (OpPost w (subS s.data.toList t.data.toList)) := by
  have HT := Lib.hid ht
  clear ht
  go_enter Tryz.func50, Tryz.ntmps50
  go_wp2_with fail
  refine (both_any s t w).mono ?_
  rintro e w1 (⟨hs, ht, x, y, rfl, ⟨rx, rfl, nx⟩, ⟨ry, rfl, ny⟩, hb1⟩ | ⟨hno, rfl, hb1⟩)
  · have HS := Lib.hid hs
    have HU := Lib.hid ht
    have LX := Lib.hid (lim_num hs)
    have LY := Lib.hid (lim_num ht)
    obtain ⟨ax, lx, cx, rfl⟩ := nx.shape
    obtain ⟨ay, ly, cy, rfl⟩ := ny.shape
    have S1 := Two.start w1 (.bool (decide (num s.data.toList < 0))) (.slice ax lx cx) (.bool (decide (num t.data.toList < 0))) (.slice ay ly cy)
    have S2 := S1.s10 (.bool (!decide (num t.data.toList < 0)))
    generalize hW1 : ((w1.alloc (.cells #[.bool (decide (num s.data.toList < 0)), .slice ax lx cx] 91)).alloc (.cells #[.bool (decide (num t.data.toList < 0)), .slice ay ly cy] 91)) = W1 at S1 S2
    have HN := Lib.hid (splus_any (decide (num s.data.toList < 0)) (!decide (num t.data.toList < 0)) _ _ _ _ _ (nx.below (Nat.le_refl _) S2.below) (ny.below (Nat.le_refl _) S2.below) (LX.out.fits (by omega)) (LY.out.fits (by omega)))
    rw [sv_num, sv_not, sv_num, ← Int.sub_eq_add_neg] at HN
    have HB := Lib.hid (hb1.trans (S2.below.mono hb1.size))
    have c10 := S1.c10
    have f10 := S1.f1 0
    have d00 := S2.c00; have d01 := S2.c01; have d10 := S2.c10; have d11 := S2.c11
    clear hs ht nx ny S1 S2 hb1
    go_wp2_with fail
    refine HN.out.mono ?_
    rintro e w2 ⟨neg, v, m, rfl, hm, hsv, hb2⟩
    have HB2 := Lib.hid (HB.out.trans (hb2.mono HB.out.size))
    have HR := Lib.hid (text_res hm hsv (lim_sub LX.out LY.out) (HT.out.below HB2.out))
    clear hm hsv hb2
    go_wp2_with fail
    refine HR.out.mono ?_
    rintro e w3 ⟨rfl, hb3⟩
    have HB3 := Lib.hid (HB2.out.trans (hb3.mono HB2.out.size))
    clear hb3
    unfold pairV
    go_wp2
    go_ret2
    exact ⟨by unfold subS; rw [bin_yes HS.out HU.out]; rfl, HB3.out⟩
  · have HNO := Lib.hid hno
    clear hno
    go_wp2
    go_ret2
    exact ⟨by unfold subS; rw [bin_no HNO.out]; rfl, hb1.trans (((Below.refl _ w1).alloc (Nat.le_refl _) _).alloc (by simp) _ |>.mono hb1.size)⟩

end Go.Proofs.Tryz

namespace Go.Proofs.Tryz
open Go.RowKit Go.Shelf Go.Proofs.Dt

/-- What is known of what 'both' read. -/
structure Got (s t : ByteArray) (p q : Bool) (a b : Nat) : Prop where
  hs : valid s.data.toList = true
  ht : valid t.data.toList = true
  hx : sv p a = num s.data.toList
  hy : sv q b = num t.data.toList
  la : Lim 50 a
  lb : Lim 50 b
  hp : p = decide (num s.data.toList < 0)
  hq : q = decide (num t.data.toList < 0)
  ha : a = (num s.data.toList).natAbs
  hb : b = (num t.data.toList).natAbs

/-- 'both', its numbers behind names. -/
theorem both_gen (s t : ByteArray) (w : World) : Calls Tryz.prog 74 #[.string s, .string t] w fun e w' =>
    (∃ p q a b ax lx cx ay ly cy, e = .returned (.tuple #[.agg #[.bool p, .slice ax lx cx], .agg #[.bool q, .slice ay ly cy], .bool true]) ∧ Num w' (.slice ax lx cx) a ∧ Num w' (.slice ay ly cy) b ∧ Hid (Got s t p q a b) ∧ Below w.heap.size w w') ∨
    (e = .returned (.tuple #[.agg #[.bool false, .slice none 0 0], .agg #[.bool false, .slice none 0 0], .bool false]) ∧ Hid ((valid s.data.toList && valid t.data.toList) = false) ∧ Below w.heap.size w w') := by
  refine (both_any s t w).mono ?_
  rintro e w1 (⟨hs, ht, x, y, rfl, ⟨rx, rfl, nx⟩, ⟨ry, rfl, ny⟩, hb1⟩ | ⟨hno, rfl, hb1⟩)
  · obtain ⟨ax, lx, cx, rfl⟩ := nx.shape
    obtain ⟨ay, ly, cy, rfl⟩ := ny.shape
    exact .inl ⟨_, _, _, _, _, _, _, _, _, _, rfl, nx, ny, ⟨hs, ht, sv_num _, sv_num _, lim_num hs, lim_num ht, rfl, rfl, rfl, rfl⟩, hb1⟩
  · exact .inr ⟨rfl, hno, hb1⟩

set_option maxHeartbeats 4000000 in
set_option maxRecDepth 100000 in
theorem mul_any (s t : ByteArray) (w : World) (ht : Tab w) : Calls Tryz.prog 83 #[.string s, .string t] w (OpPost w (mulS s.data.toList t.data.toList)) := by
  have HT := Lib.hid ht
  clear ht
  obtain ⟨q1, hq1⟩ : ∃ q1 : ByteArray, q1 = ⟨(mulS s.data.toList t.data.toList).1.toArray⟩ := ⟨_, rfl⟩
  obtain ⟨q2, hq2⟩ : ∃ q2 : Int, q2 = (mulS s.data.toList t.data.toList).2 := ⟨_, rfl⟩
  suffices h : Calls Tryz.prog 83 #[.string s, .string t] w fun e w' => e = .returned (.tuple #[.string q1, .int .i64 q2]) ∧ Below w.heap.size w w' by
    refine h.mono ?_
    rintro e w' ⟨rfl, hb⟩
    exact ⟨by rw [hq1, hq2]; rfl, hb⟩
  have HQ1 := Lib.hid hq1
  have HQ2 := Lib.hid hq2
  clear hq1 hq2
  go_enter Tryz.func83, Tryz.ntmps83
  go_wp2_with fail
  refine (both_gen s t w).mono ?_
  rintro e w1 (⟨p, q, a, b, ax, lx, cx, ay, ly, cy, rfl, nx, ny, HG, hb1⟩ | ⟨rfl, hno, hb1⟩)
  · have S1 := Two.start w1 (.bool p) (.slice ax lx cx) (.bool q) (.slice ay ly cy)
    have hTx : Hid (∀ (r : Value) (W : World), Num W r (a * b) → Below w.heap.size w W → Calls Tryz.prog 79 #[.agg #[.bool (p != q), r]] W fun e w' => e = .returned (.tuple #[.string q1, .int .i64 q2]) ∧ Below W.heap.size W w') := by
      intro r W hr hB
      have hsv : sv (p != q) (a * b) = num s.data.toList * num t.data.toList := by rw [sv_mul, HG.out.hx, HG.out.hy]
      have hl : Lim 400 (num s.data.toList * num t.data.toList).natAbs := by
        rw [← hsv, sv_abs]; exact (HG.out.la.mul HG.out.lb).mono (by omega)
      rw [HQ1.out, HQ2.out, show mulS s.data.toList t.data.toList = res (num s.data.toList * num t.data.toList) from bin_yes HG.out.hs HG.out.ht]
      exact text_res hr hsv hl (HT.out.below hB)
    go_wp2_with fail
    generalize ((w1.alloc (.cells #[.bool p, .slice ax lx cx] 91)).alloc (.cells #[.bool q, .slice ay ly cy] 91)) = W1 at S1 ⊢
    have D0 := S1.next (W' := W1.drew) ⟨rfl, rfl, rfl, Nat.le_refl _, fun _ _ => rfl⟩
    have HN := Lib.hid (times_any _ _ _ _ W1.drew (nx.below (Nat.le_refl _) D0.below) (ny.below (Nat.le_refl _) D0.below) (HG.out.la.mono (by omega)) (HG.out.lb.mono (by omega)))
    have HB := Lib.hid (hb1.trans (D0.below.mono hb1.size))
    have mixed : Tryz.prog.follows .mixedOrders = true := by kernel_rfl
    clear nx ny hb1 HG HT S1
    go_region_held3 (fun w' => w'.cell? ⟨w1.heap.size, 0, none⟩ = some (.bool p) ∧ w'.cell? ⟨w1.heap.size, 1, none⟩ = some (.slice ax lx cx) ∧ w'.cell? ⟨w1.heap.size + 1, 0, none⟩ = some (.bool q) ∧ w'.cell? ⟨w1.heap.size + 1, 1, none⟩ = some (.slice ay ly cy))
      (first | exact D0.all | exact D1.all | exact D2.all)
      (first
        | (go_at_call 110; refine HN.out.mono ?_; rintro e w2 ⟨r, rfl, hr, _, hb2⟩; obtain ⟨ar, lr, cr, rfl⟩ := hr.shape; have D1 := D0.next hb2; have HB2 := Lib.hid (HB.out.trans (hb2.mono HB.out.size)))
        | (go_at_call 79; refine (hTx.out _ _ hr HB2.out).mono ?_; rintro e w3 ⟨rfl, hb3⟩; have D2 := D1.next hb3; have HB3 := Lib.hid (HB2.out.trans (hb3.mono HB2.out.size))))
    go_wp2
    go_ret2
    exact ⟨rfl, HB3.out⟩
  · go_wp2
    go_ret2
    exact ⟨by rw [HQ1.out, HQ2.out]; unfold mulS; rw [bin_no hno.out]; rfl, hb1.trans (((Below.refl _ w1).alloc (Nat.le_refl _) _).alloc (by simp) _ |>.mono hb1.size)⟩

end Go.Proofs.Tryz

namespace Go.Proofs.Tryz
open Go.RowKit Go.Shelf Go.Proofs.Dt

theorem valid_any (s : ByteArray) (w : World) : Calls Tryz.prog 58 #[.string s] w fun e w' => e = .returned (.bool (valid s.data.toList)) ∧ Below w.heap.size w w' := by
  go_enter Tryz.func58, Tryz.ntmps58
  go_wp2_with fail
  refine (isValid_any s w).mono ?_
  rintro e w1 ⟨rfl, hb⟩
  go_wp2
  go_ret
  exact ⟨rfl, hb⟩

theorem fromInt_any (n : Int) (h0 : -9223372036854775808 ≤ n) (h1 : n ≤ 9223372036854775807) (w : World) (ht : Tab w) : Calls Tryz.prog 73 #[.int .i64 n] w fun e w' => e = .returned (.string ⟨(str n).toArray⟩) ∧ Below w.heap.size w w' := by
  have hI := Lib.hid (Tryz.strconv_Itoa n h0 h1 w ht)
  obtain ⟨r, hr⟩ : ∃ r : ByteArray, r = ⟨(Lib.itoa n).toArray⟩ := ⟨_, rfl⟩
  rw [← hr] at hI
  have HR := Lib.hid hr
  clear hr h0 h1
  go_enter Tryz.func73, Tryz.ntmps73
  go_wp2_with fail
  refine hI.out.mono ?_
  rintro e w1 ⟨rfl, k, os, rfl⟩
  go_wp2
  go_ret
  exact ⟨by rw [show r = ⟨(str n).toArray⟩ from HR.out]; rfl, Lib.below_grow _ _ (Nat.le_refl _) _ _⟩

theorem cmpI_sgn (p q : Bool) (a b : Nat) (x y : Int) (hx : sv p a = x) (hy : sv q b = y) (hp : p = decide (x < 0)) (hq : q = decide (y < 0)) :
    (if p && q then cmpI b a else if p then -1 else if q then 1 else cmpI a b) = sgn (x - y) := by
  subst hp hq
  have ha : a = x.natAbs := by rw [← hx, sv_abs]
  have hb : b = y.natAbs := by rw [← hy, sv_abs]
  subst ha hb
  unfold sgn cmpI
  by_cases h1 : x < 0 <;> by_cases h2 : y < 0 <;> simp only [h1, h2, decide_true, decide_false, Bool.and_true, Bool.and_false, if_true, if_false, Bool.false_eq_true] <;> (repeat' split) <;> omega

set_option maxHeartbeats 4000000 in
set_option maxRecDepth 100000 in
theorem compareS_any (s t : ByteArray) (w : World) : Calls Tryz.prog 48 #[.string s, .string t] w fun e w' => e = .returned (.int .i64 (cmpS s.data.toList t.data.toList)) ∧ Below w.heap.size w w' := by
  obtain ⟨c, hc⟩ : ∃ c, c = cmpS s.data.toList t.data.toList := ⟨_, rfl⟩
  have HC := Lib.hid hc
  rw [← hc]
  clear hc
  go_enter Tryz.func48, Tryz.ntmps48
  go_wp2_with fail
  refine (both_gen s t w).mono ?_
  rintro e w1 (⟨p, q, a, b, ax, lx, cx, ay, ly, cy, rfl, nx, ny, HG, hb1⟩ | ⟨rfl, hno, hb1⟩)
  · have S1 := Two.start w1 (.bool p) (.slice ax lx cx) (.bool q) (.slice ay ly cy)
    have hcs : c = if p && q then cmpI b a else if p then -1 else if q then 1 else cmpI a b := by
      rw [cmpI_sgn p q a b _ _ HG.out.hx HG.out.hy HG.out.hp HG.out.hq, HC.out]
      unfold cmpS
      rw [HG.out.hs, HG.out.ht]; rfl
    have HCS := Lib.hid hcs
    have hAB := Lib.hid (compare_any _ _ a b _ (nx.below (Nat.le_refl _) S1.below) (ny.below (Nat.le_refl _) S1.below) (HG.out.la.fits (by omega)))
    have hBA := Lib.hid (compare_any _ _ b a _ (ny.below (Nat.le_refl _) S1.below) (nx.below (Nat.le_refl _) S1.below) (HG.out.lb.fits (by omega)))
    have HB := Lib.hid (hb1.trans (S1.below.mono hb1.size))
    clear hcs S1 nx ny hb1
    cases p <;> cases q
    · go_wp2_with fail
      refine hAB.out.mono ?_
      rintro e w2 ⟨rfl, hb2⟩
      go_wp2
      go_ret
      exact ⟨ret_int HCS.out.symm, HB.out.trans (hb2.mono HB.out.size)⟩
    · go_wp2
      go_ret
      exact ⟨ret_int HCS.out.symm, HB.out⟩
    · go_wp2
      go_ret
      exact ⟨ret_int HCS.out.symm, HB.out⟩
    · go_wp2_with fail
      refine hBA.out.mono ?_
      rintro e w2 ⟨rfl, hb2⟩
      go_wp2
      go_ret
      exact ⟨ret_int HCS.out.symm, HB.out.trans (hb2.mono HB.out.size)⟩
  · go_wp2
    go_ret
    exact ⟨ret_int (by rw [HC.out]; unfold cmpS; rw [hno.out]; rfl), hb1.trans (((Below.refl _ w1).alloc (Nat.le_refl _) _).alloc (by simp) _ |>.mono hb1.size)⟩

end Go.Proofs.Tryz

namespace Go.Proofs.Tryz
open Go.RowKit Go.Shelf Go.Proofs.Dt

/-- strconv's two errors lie in their variables. -/
structure Errs (W : World) : Prop where
  syn : ∃ tp p, W.var? Tryz.prog "strconv.ErrSyntax" = some #[.iface tp p]
  rng : ∃ tp p, W.var? Tryz.prog "strconv.ErrRange" = some #[.iface tp p]
theorem Errs.below {W W' : World} (h : Errs W) (hb : Below W.heap.size W W') : Errs W' :=
  ⟨let ⟨a, b, e⟩ := h.syn; ⟨a, b, var_below e hb⟩, let ⟨a, b, e⟩ := h.rng; ⟨a, b, var_below e hb⟩⟩

/-- Atoi: a number and nil, or a number and an error. -/
theorem atoi_any (s : ByteArray) (hl : s.size ≤ 1000) (w : World) (he : Errs w) : Calls Tryz.prog 121 #[.string s] w fun e w' => Below w.heap.size w w' ∧
    ((∃ v, Lib.atoiAll s.data.toList = .ok v ∧ e = .returned (.tuple #[.int .i64 v, .nilIface])) ∨ (∃ v tp p, (∀ u, Lib.atoiAll s.data.toList ≠ .ok u) ∧ e = .returned (.tuple #[.int .i64 v, .iface tp p]))) := by
  obtain ⟨t1, p1, h1⟩ := he.syn
  obtain ⟨t2, p2, h2⟩ := he.rng
  cases h : Lib.atoiAll s.data.toList with
  | ok v =>
    refine (Tryz.strconv_Atoi_ok s (by omega) v h w).mono ?_
    rintro e w' ⟨rfl, rfl | ⟨t, rfl⟩⟩
    · exact ⟨Below.refl _ _, .inl ⟨v, rfl, rfl⟩⟩
    · exact ⟨Lib.bytesWorld_below w _ _, .inl ⟨v, rfl, rfl⟩⟩
  | range =>
    refine (Tryz.strconv_Atoi_range_var s (by omega) h t2 p2 w h2).mono ?_
    rintro e w' ⟨N, rfl, _, _, hb⟩
    exact ⟨hb, .inr ⟨_, _, _, (fun u e => by cases e), rfl⟩⟩
  | _ =>
    refine (Tryz.strconv_Atoi_bad_var s (by omega) ⟨(fun u e => by rw [h] at e; cases e), (fun e => by rw [h] at e; cases e)⟩ t1 p1 w h1).mono ?_
    rintro e w' ⟨N, rfl, _, _, hb⟩
    exact ⟨hb, .inr ⟨_, _, _, (fun u e => by cases e), rfl⟩⟩

theorem toIntS_no {s : List UInt8} (h : valid s = false) : toIntS s = (0, 30) := by unfold toIntS; rw [h]; rfl
theorem toIntS_ok {s : List UInt8} (h : valid s = true) {v : Int} (hv : Lib.atoiAll s = .ok v) : toIntS s = (v, 0) := by
  rw [atoiAll_valid h] at hv
  split at hv
  · rename_i hr
    injection hv with hv
    unfold toIntS
    rw [h, decide_eq_true hr.1, decide_eq_true hr.2, ← hv]; rfl
  · cases hv
theorem toIntS_range {s : List UInt8} (h : valid s = true) (hv : ∀ u, Lib.atoiAll s ≠ .ok u) : toIntS s = (0, 30) := by
  rw [atoiAll_valid h] at hv
  unfold toIntS
  by_cases hr : -9223372036854775808 ≤ num s ∧ num s ≤ 9223372036854775807
  · rw [if_pos hr] at hv; exact absurd rfl (hv _)
  · rw [if_neg]
    rw [h]
    simpa using hr

end Go.Proofs.Tryz
