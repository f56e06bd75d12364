/- Sums, differences, products with one group: what they return. -/
import Derived.Test.YtdjnkaeggnkgeaaGreatDoorFold
import Derived.RangeFuncBox
import Derived.Shelf.Abstract
namespace Go.Proofs.Tryz
open Go.RowKit Go.Proofs.Dt

/-- The slice value v is the number n. -/
def Num (W : World) (v : Value) (n : Nat) : Prop := ∃ xs, Ints W v xs ∧ RepN 10000 xs n

/-- Not too large for the lists of this program. -/
@[irreducible] def Fits (n : Nat) : Prop := (n : Int) < 10000 ^ 1000

theorem Num.below {W W' : World} {v : Value} {n : Nat} (h : Num W v n) {k : Nat} (hk : W.heap.size ≤ k) (hb : Below k W W') : Num W' v n :=
  let ⟨xs, h1, h2⟩ := h; ⟨xs, h1.below hk hb, h2⟩

theorem rep_short {xs : List Int} {n : Nat} (h : RepN 10000 xs n) (hf : Fits n) : xs.length ≤ 1000 := h.length (by decide) (by unfold Fits at hf; exact hf)

/-- What returns a number. -/
def NumPost (w : World) (n : Nat) (e : Ending) (w' : World) : Prop := ∃ r, e = .returned r ∧ Num w' r n ∧ (∀ b, b < w.heap.size → Away b r) ∧ Below w.heap.size w w'

theorem Ints.boxed {W : World} {v : Value} {xs : List Int} (h : Ints W v xs) (o : Obj) : Ints (W.alloc o) v xs := h.below (Nat.le_refl _) ((Below.refl _ W).alloc (Nat.le_refl _) o)

/-- Behind 'fold', 'trimmed' leaves a number. -/
theorem num_of_trim {w' : World} {xs : List Int} {n : Nat} (hd : Dgs 10000 xs) (hv : val 10000 xs = (n : Int)) {v : Value} {k : Nat} (hc : Cut xs k) (hi : Ints w' v (xs.take k)) : Num w' v n :=
  ⟨xs.take k, hi, rep_trim hd hv hc.1 hc.2.1 hc.2.2⟩

set_option maxRecDepth 100000 in
set_option maxHeartbeats 1000000 in
theorem plus_any (v u : Value) (a b : Nat) (w : World) (ha : Num w v a) (hb : Num w u b) (fa : Fits a) (fb : Fits b) : Calls Tryz.prog 43 #[v, u] w (NumPost w (a + b)) := by
  obtain ⟨xs, ix, rx⟩ := ha
  obtain ⟨ys, iy, ry⟩ := hb
  have lx := rep_short rx fa
  have ly := rep_short ry fb
  obtain ⟨av, cv, ev⟩ := ix.shape
  obtain ⟨au, cu, eu⟩ := iy.shape
  have W2 : Below w.heap.size w ((w.alloc (.cells #[v] 48)).alloc (.cells #[u] 48)) := ((Below.refl _ w).alloc (Nat.le_refl _) _).alloc (by simp) _
  have hD : DigitAt 69 #[.pointer (some ⟨w.heap.size, 0, none⟩), .pointer (some ⟨w.heap.size + 1, 0, none⟩)] (fun i => xs[i]?.getD 0 + ys[i]?.getD 0) ((w.alloc (.cells #[v] 48)).alloc (.cells #[u] 48)) := by
    intro i W hW
    refine plus1_any _ _ v u xs ys i W ((ix.boxed _).boxed _ |>.below (Nat.le_refl _) hW) ((iy.boxed _).boxed _ |>.below (Nat.le_refl _) hW) rx.good ry.good ?_ ?_
    · rw [hW.cell (by simp; omega), World.cell?_alloc_past _ _ _ (by simp), World.cell?_alloc_at _ _ _ _ rfl]; rfl
    · rw [hW.cell (by simp), World.cell?_alloc_at _ _ _ _ (by simp)]; rfl
  have HF : Hid (∀ N, xs.length ≤ N → ys.length ≤ N → N ≤ 1000 → Calls Tryz.prog 68 #[.int .i64 (N : Int), .int .i64 0, .func (.func 69) #[] #[.pointer (some ⟨w.heap.size, 0, none⟩), .pointer (some ⟨w.heap.size + 1, 0, none⟩)]]
      ((w.alloc (.cells #[v] 48)).alloc (.cells #[u] 48)) fun e w' => ∃ r zs, e = .returned r ∧ Ints w' r zs ∧ Dgs 10000 zs ∧ val 10000 zs = ((a + b : Nat) : Int) ∧ zs.length ≤ 1002 ∧ (∀ b, b < w.heap.size → Away b r) ∧ Below w.heap.size w w') := by
    intro N h1 h2 h3
    have hsum : sumTo 10000 (fun i => xs[i]?.getD 0 + ys[i]?.getD 0) N = ((a + b : Nat) : Int) := by
      rw [sumTo_add, sumTo_all _ _ _ (by omega), sumTo_all _ _ _ (by omega), rx.val, ry.val]; omega
    refine (fold_any 69 _ _ N _ (enters_of Tryz.func69 (by kernel_rfl) rfl) (by omega)
      (fun i => by have := good_small rx.good i; have := good_small ry.good i; omega)
      (fun i hi => by rw [List.getElem?_eq_none (by omega), List.getElem?_eq_none (by omega)]; rfl) (by rw [hsum]; omega) hD).mono ?_
    rintro e w' ⟨r, zs, he, hi, hd, hv, hl, haw, hb⟩
    exact ⟨r, zs, he, hi, hd, hv.trans hsum, by omega, fun b h => haw b (by simp; omega), W2.trans (hb.mono (by simp; omega))⟩
  clear hD W2 fa fb
  subst v; subst u
  go_enter Tryz.func43, Tryz.ntmps43
  go_wp2_with fail
  all_goals
    refine (HF.out _ (by omega) (by omega) (by omega)).mono ?_
    rintro e w1 ⟨r, zs, rfl, i1, d1, v1, l1, aw1, b1⟩
    have V1 := Lib.hid v1
    have AW := Lib.hid aw1
    clear v1 aw1
    go_wp2_with (go_at_call 65; refine (trimmed_any w1 (by omega) i1).mono ?_; rintro e w' ⟨r', k, rfl, hc, hi, haw2, rfl⟩)
    go_ret
    exact ⟨_, rfl, num_of_trim d1 V1.out hc hi, fun b h => haw2 b (AW.out b h), b1⟩

set_option maxRecDepth 100000 in
set_option maxHeartbeats 1000000 in
theorem minus_any (v u : Value) (a b : Nat) (w : World) (ha : Num w v a) (hb : Num w u b) (fa : Fits a) (hab : b ≤ a) : Calls Tryz.prog 45 #[v, u] w (NumPost w (a - b)) := by
  obtain ⟨xs, ix, rx⟩ := ha
  obtain ⟨ys, iy, ry⟩ := hb
  have lx := rep_short rx fa
  have ly : ys.length ≤ xs.length := by
    rcases Nat.lt_or_ge xs.length ys.length with h | h
    · have := lt_of_length (by decide) rx ry h; omega
    · exact h
  obtain ⟨av, cv, ev⟩ := ix.shape
  obtain ⟨au, cu, eu⟩ := iy.shape
  have W2 : Below w.heap.size w ((w.alloc (.cells #[v] 48)).alloc (.cells #[u] 48)) := ((Below.refl _ w).alloc (Nat.le_refl _) _).alloc (by simp) _
  have hD : DigitAt 71 #[.pointer (some ⟨w.heap.size, 0, none⟩), .pointer (some ⟨w.heap.size + 1, 0, none⟩)] (fun i => xs[i]?.getD 0 - ys[i]?.getD 0) ((w.alloc (.cells #[v] 48)).alloc (.cells #[u] 48)) := by
    intro i W hW
    refine minus1_any _ _ v u xs ys i W ((ix.boxed _).boxed _ |>.below (Nat.le_refl _) hW) ((iy.boxed _).boxed _ |>.below (Nat.le_refl _) hW) rx.good ry.good ?_ ?_
    · rw [hW.cell (by simp; omega), World.cell?_alloc_past _ _ _ (by simp), World.cell?_alloc_at _ _ _ _ rfl]; rfl
    · rw [hW.cell (by simp), World.cell?_alloc_at _ _ _ _ (by simp)]; rfl
  have HF : Hid (Calls Tryz.prog 68 #[.int .i64 (xs.length : Int), .int .i64 0, .func (.func 71) #[] #[.pointer (some ⟨w.heap.size, 0, none⟩), .pointer (some ⟨w.heap.size + 1, 0, none⟩)]]
      ((w.alloc (.cells #[v] 48)).alloc (.cells #[u] 48)) fun e w' => ∃ r zs, e = .returned r ∧ Ints w' r zs ∧ Dgs 10000 zs ∧ val 10000 zs = ((a - b : Nat) : Int) ∧ zs.length ≤ 1002 ∧ (∀ b, b < w.heap.size → Away b r) ∧ Below w.heap.size w w') := by
    have hsum : sumTo 10000 (fun i => xs[i]?.getD 0 - ys[i]?.getD 0) xs.length = ((a - b : Nat) : Int) := by
      rw [sumTo_sub, sumTo_all _ _ _ (by omega), sumTo_all _ _ _ (by omega), rx.val, ry.val]; omega
    refine (fold_any 71 _ _ xs.length _ (enters_of Tryz.func71 (by kernel_rfl) rfl) (by omega)
      (fun i => by have := good_small rx.good i; have := good_small ry.good i; omega)
      (fun i hi => by rw [List.getElem?_eq_none (by omega), List.getElem?_eq_none (by omega)]; rfl) (by rw [hsum]; omega) hD).mono ?_
    rintro e w' ⟨r, zs, he, hi, hd, hv, hl, haw, hb⟩
    exact ⟨r, zs, he, hi, hd, hv.trans hsum, by omega, fun b h => haw b (by simp; omega), W2.trans (hb.mono (by simp; omega))⟩
  clear hD W2 fa
  subst v; subst u
  go_enter Tryz.func45, Tryz.ntmps45
  go_wp2_with fail
  refine HF.out.mono ?_
  rintro e w1 ⟨r, zs, rfl, i1, d1, v1, l1, aw1, b1⟩
  have V1 := Lib.hid v1
  have AW := Lib.hid aw1
  clear v1 aw1
  go_wp2_with (go_at_call 65; refine (trimmed_any w1 (by omega) i1).mono ?_; rintro e w' ⟨r', k, rfl, hc, hi, haw2, rfl⟩)
  go_ret
  exact ⟨_, rfl, num_of_trim d1 V1.out hc hi, fun b h => haw2 b (AW.out b h), b1⟩

set_option maxRecDepth 100000 in
set_option maxHeartbeats 1000000 in
theorem by_any (v : Value) (a : Nat) (k : Int) (k0 : 0 ≤ k) (k1 : k ≤ 9999) (w : World) (ha : Num w v a) (fa : Fits a) : Calls Tryz.prog 64 #[v, .int .i64 k] w (NumPost w (a * k.toNat)) := by
  obtain ⟨xs, ix, rx⟩ := ha
  have lx := rep_short rx fa
  obtain ⟨av, cv, ev⟩ := ix.shape
  have W2 : Below w.heap.size w ((w.alloc (.cells #[v] 48)).alloc (.cells #[.int .i64 k] 3)) := ((Below.refl _ w).alloc (Nat.le_refl _) _).alloc (by simp) _
  have hD : DigitAt 84 #[.pointer (some ⟨w.heap.size, 0, none⟩), .pointer (some ⟨w.heap.size + 1, 0, none⟩)] (fun i => xs[i]?.getD 0 * k) ((w.alloc (.cells #[v] 48)).alloc (.cells #[.int .i64 k] 3)) := by
    intro i W hW
    refine by1_any _ _ v xs k k0 k1 i W ((ix.boxed _).boxed _ |>.below (Nat.le_refl _) hW) rx.good ?_ ?_
    · rw [hW.cell (by simp; omega), World.cell?_alloc_past _ _ _ (by simp), World.cell?_alloc_at _ _ _ _ rfl]; rfl
    · rw [hW.cell (by simp), World.cell?_alloc_at _ _ _ _ (by simp)]; rfl
  have HF : Hid (Calls Tryz.prog 68 #[.int .i64 (xs.length : Int), .int .i64 0, .func (.func 84) #[] #[.pointer (some ⟨w.heap.size, 0, none⟩), .pointer (some ⟨w.heap.size + 1, 0, none⟩)]]
      ((w.alloc (.cells #[v] 48)).alloc (.cells #[.int .i64 k] 3)) fun e w' => ∃ r zs, e = .returned r ∧ Ints w' r zs ∧ Dgs 10000 zs ∧ val 10000 zs = ((a * k.toNat : Nat) : Int) ∧ zs.length ≤ 1002 ∧ (∀ b, b < w.heap.size → Away b r) ∧ Below w.heap.size w w') := by
    have hsum : sumTo 10000 (fun i => xs[i]?.getD 0 * k) xs.length = ((a * k.toNat : Nat) : Int) := by
      rw [sumTo_mul, sumTo_all _ _ _ (by omega), rx.val, Int.natCast_mul, show ((k.toNat : Nat) : Int) = k by omega]
    refine (fold_any 84 _ _ xs.length _ (enters_of Tryz.func84 (by kernel_rfl) rfl) (by omega)
      (fun i => by have h1 := good_small rx.good i; have := mul_small h1.1 h1.2 k0 k1; omega)
      (fun i hi => by rw [List.getElem?_eq_none (by omega)]; simp) (by rw [hsum]; omega) hD).mono ?_
    rintro e w' ⟨r, zs, he, hi, hd, hv, hl, haw, hb⟩
    exact ⟨r, zs, he, hi, hd, hv.trans hsum, by omega, fun b h => haw b (by simp; omega), W2.trans (hb.mono (by simp; omega))⟩
  clear hD W2 fa
  subst v
  go_enter Tryz.func64, Tryz.ntmps64
  go_wp2_with fail
  refine HF.out.mono ?_
  rintro e w1 ⟨r, zs, rfl, i1, d1, v1, l1, aw1, b1⟩
  have V1 := Lib.hid v1
  have AW := Lib.hid aw1
  clear v1 aw1
  go_wp2_with (go_at_call 65; refine (trimmed_any w1 (by omega) i1).mono ?_; rintro e w' ⟨r', k, rfl, hc, hi, haw2, rfl⟩)
  go_ret
  exact ⟨_, rfl, num_of_trim d1 V1.out hc hi, fun b h => haw2 b (AW.out b h), b1⟩

/-- 'one()'. -/
theorem one_any (w : World) : Calls Tryz.prog 44 #[] w (NumPost w 1) := by
  go_enter Tryz.func44, Tryz.ntmps44
  go_wp2
  go_ret
  refine ⟨_, rfl, ⟨[1], .inr ⟨w.heap.size, 0, 1, rfl, by simp, by simp, fun j hj => ?_⟩, ⟨Dgs.one (by decide) (by decide), by simp [Nrm], rfl⟩⟩, fun b h => away_at w.heap.size 0 1 1 b h, (Below.refl _ w).alloc (Nat.le_refl _) _⟩
  have : j = 0 := by simpa using hj
  subst this
  simp [World.cell?_alloc_at]

end Go.Proofs.Tryz
