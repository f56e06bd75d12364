/- Sums, differences, products with one group: what they return.
'slices.Backward' at numbers: the iterator hands out the groups, the last one first.
'compare': the order of two numbers.
'times': the product of two numbers. -/
import Derived.Test.YtjjmabokoendbaaGreatDoorIA
import Derived.RangeFuncBox
import Derived.Shelf.Abstract
import Derived.RangeFuncCalls
import Derived.RangeFuncNested
import Derived.RangeFuncLeaves
import Derived.OwnWalkIn
import Derived.TacticsInMore
import Derived.LoopNIn
import Derived.LoopIn
import Derived.Maps.AppendAt
import Derived.Test.YtjjmabokoendbaaGreatDoorPA
import Derived.Shelf.RegionOpen
namespace Go.Proofs.Tryz
open Go.RowKit Go.Proofs.Dt

/-- The slice value v is the number n. -/
def Num (W : World) (v : Value) (n : Nat) : Prop := ∃ xs, Ints W v xs ∧ RepN 10000 xs n

/-- Not too large for the lists of this program. -/
@[irreducible] def Fits (n : Nat) : Prop := (n : Int) < 10000 ^ 1000

theorem Num.below {W W' : World} {v : Value} {n : Nat} (h : Num W v n) {k : Nat} (hk : W.heap.size ≤ k) (hb : Below k W W') : Num W' v n :=
  let ⟨xs, h1, h2⟩ := h; ⟨xs, h1.below hk hb, h2⟩

theorem rep_short {xs : List Int} {n : Nat} (h : RepN 10000 xs n) (hf : Fits n) : xs.length ≤ 1000 := h.length (by decide) (by unfold Fits at hf; exact hf)

/-- What returns a number. -/
def NumPost (w : World) (n : Nat) (e : Ending) (w' : World) : Prop := ∃ r, e = .returned r ∧ Num w' r n ∧ (∀ b, b < w.heap.size → Away b r) ∧ Below w.heap.size w w'

theorem Ints.boxed {W : World} {v : Value} {xs : List Int} (h : Ints W v xs) (o : Obj) : Ints (W.alloc o) v xs := h.below (Nat.le_refl _) ((Below.refl _ W).alloc (Nat.le_refl _) o)

/-- Behind 'fold', 'trimmed' leaves a number. -/
theorem num_of_trim {w' : World} {xs : List Int} {n : Nat} (hd : Dgs 10000 xs) (hv : val 10000 xs = (n : Int)) {v : Value} {k : Nat} (hc : Cut xs k) (hi : Ints w' v (xs.take k)) : Num w' v n :=
  ⟨xs.take k, hi, rep_trim hd hv hc.1 hc.2.1 hc.2.2⟩

set_option maxRecDepth 100000 in
set_option maxHeartbeats 1000000 in
theorem plus_any (v u : Value) (a b : Nat) (w : World) (ha : Num w v a) (hb : Num w u b) (fa : Fits a) (fb : Fits b) : Calls Tryz.prog 76 #[v, u] w (NumPost w (a + b)) := by
  obtain ⟨xs, ix, rx⟩ := ha
  obtain ⟨ys, iy, ry⟩ := hb
  have lx := rep_short rx fa
  have ly := rep_short ry fb
  obtain ⟨av, cv, ev⟩ := ix.shape
  obtain ⟨au, cu, eu⟩ := iy.shape
  have W2 : Below w.heap.size w ((w.alloc (.cells #[v] 89)).alloc (.cells #[u] 89)) := ((Below.refl _ w).alloc (Nat.le_refl _) _).alloc (by simp) _
  have hD : DigitAt 106 #[.pointer (some ⟨w.heap.size, 0, none⟩), .pointer (some ⟨w.heap.size + 1, 0, none⟩)] (fun i => xs[i]?.getD 0 + ys[i]?.getD 0) ((w.alloc (.cells #[v] 89)).alloc (.cells #[u] 89)) := by
    intro i W hW
    refine plus1_any _ _ v u xs ys i W ((ix.boxed _).boxed _ |>.below (Nat.le_refl _) hW) ((iy.boxed _).boxed _ |>.below (Nat.le_refl _) hW) rx.good ry.good ?_ ?_
    · rw [hW.cell (by simp; omega), World.cell?_alloc_past _ _ _ (by simp), World.cell?_alloc_at _ _ _ _ rfl]; rfl
    · rw [hW.cell (by simp), World.cell?_alloc_at _ _ _ _ (by simp)]; rfl
  have HF : Hid (∀ N, xs.length ≤ N → ys.length ≤ N → N ≤ 1000 → Calls Tryz.prog 105 #[.int .i64 (N : Int), .int .i64 0, .func (.func 106) #[] #[.pointer (some ⟨w.heap.size, 0, none⟩), .pointer (some ⟨w.heap.size + 1, 0, none⟩)]]
      ((w.alloc (.cells #[v] 89)).alloc (.cells #[u] 89)) fun e w' => ∃ r zs, e = .returned r ∧ Ints w' r zs ∧ Dgs 10000 zs ∧ val 10000 zs = ((a + b : Nat) : Int) ∧ zs.length ≤ 1002 ∧ (∀ b, b < w.heap.size → Away b r) ∧ Below w.heap.size w w') := by
    intro N h1 h2 h3
    have hsum : sumTo 10000 (fun i => xs[i]?.getD 0 + ys[i]?.getD 0) N = ((a + b : Nat) : Int) := by
      rw [sumTo_add, sumTo_all _ _ _ (by omega), sumTo_all _ _ _ (by omega), rx.val, ry.val]; omega
    refine (fold_any 106 _ _ N _ (enters_of Tryz.func106 (by kernel_rfl) rfl) (by omega)
      (fun i => by have := good_small rx.good i; have := good_small ry.good i; omega)
      (fun i hi => by rw [List.getElem?_eq_none (by omega), List.getElem?_eq_none (by omega)]; rfl) (by rw [hsum]; omega) hD).mono ?_
    rintro e w' ⟨r, zs, he, hi, hd, hv, hl, haw, hb⟩
    exact ⟨r, zs, he, hi, hd, hv.trans hsum, by omega, fun b h => haw b (by simp; omega), W2.trans (hb.mono (by simp; omega))⟩
  clear hD W2 fa fb
  subst v; subst u
  go_enter Tryz.func76, Tryz.ntmps76
  go_wp2_with fail
  all_goals
    refine (HF.out _ (by omega) (by omega) (by omega)).mono ?_
    rintro e w1 ⟨r, zs, rfl, i1, d1, v1, l1, aw1, b1⟩
    have V1 := Lib.hid v1
    have AW := Lib.hid aw1
    clear v1 aw1
    go_wp2_with (go_at_call 101; refine (trimmed_any w1 (by omega) i1).mono ?_; rintro e w' ⟨r', k, rfl, hc, hi, haw2, rfl⟩)
    go_ret
    exact ⟨_, rfl, num_of_trim d1 V1.out hc hi, fun b h => haw2 b (AW.out b h), b1⟩

set_option maxRecDepth 100000 in
set_option maxHeartbeats 1000000 in
theorem minus_any (v u : Value) (a b : Nat) (w : World) (ha : Num w v a) (hb : Num w u b) (fa : Fits a) (hab : b ≤ a) : Calls Tryz.prog 78 #[v, u] w (NumPost w (a - b)) := by
  obtain ⟨xs, ix, rx⟩ := ha
  obtain ⟨ys, iy, ry⟩ := hb
  have lx := rep_short rx fa
  have ly : ys.length ≤ xs.length := by
    rcases Nat.lt_or_ge xs.length ys.length with h | h
    · have := lt_of_length (by decide) rx ry h; omega
    · exact h
  obtain ⟨av, cv, ev⟩ := ix.shape
  obtain ⟨au, cu, eu⟩ := iy.shape
  have W2 : Below w.heap.size w ((w.alloc (.cells #[v] 89)).alloc (.cells #[u] 89)) := ((Below.refl _ w).alloc (Nat.le_refl _) _).alloc (by simp) _
  have hD : DigitAt 108 #[.pointer (some ⟨w.heap.size, 0, none⟩), .pointer (some ⟨w.heap.size + 1, 0, none⟩)] (fun i => xs[i]?.getD 0 - ys[i]?.getD 0) ((w.alloc (.cells #[v] 89)).alloc (.cells #[u] 89)) := by
    intro i W hW
    refine minus1_any _ _ v u xs ys i W ((ix.boxed _).boxed _ |>.below (Nat.le_refl _) hW) ((iy.boxed _).boxed _ |>.below (Nat.le_refl _) hW) rx.good ry.good ?_ ?_
    · rw [hW.cell (by simp; omega), World.cell?_alloc_past _ _ _ (by simp), World.cell?_alloc_at _ _ _ _ rfl]; rfl
    · rw [hW.cell (by simp), World.cell?_alloc_at _ _ _ _ (by simp)]; rfl
  have HF : Hid (Calls Tryz.prog 105 #[.int .i64 (xs.length : Int), .int .i64 0, .func (.func 108) #[] #[.pointer (some ⟨w.heap.size, 0, none⟩), .pointer (some ⟨w.heap.size + 1, 0, none⟩)]]
      ((w.alloc (.cells #[v] 89)).alloc (.cells #[u] 89)) fun e w' => ∃ r zs, e = .returned r ∧ Ints w' r zs ∧ Dgs 10000 zs ∧ val 10000 zs = ((a - b : Nat) : Int) ∧ zs.length ≤ 1002 ∧ (∀ b, b < w.heap.size → Away b r) ∧ Below w.heap.size w w') := by
    have hsum : sumTo 10000 (fun i => xs[i]?.getD 0 - ys[i]?.getD 0) xs.length = ((a - b : Nat) : Int) := by
      rw [sumTo_sub, sumTo_all _ _ _ (by omega), sumTo_all _ _ _ (by omega), rx.val, ry.val]; omega
    refine (fold_any 108 _ _ xs.length _ (enters_of Tryz.func108 (by kernel_rfl) rfl) (by omega)
      (fun i => by have := good_small rx.good i; have := good_small ry.good i; omega)
      (fun i hi => by rw [List.getElem?_eq_none (by omega), List.getElem?_eq_none (by omega)]; rfl) (by rw [hsum]; omega) hD).mono ?_
    rintro e w' ⟨r, zs, he, hi, hd, hv, hl, haw, hb⟩
    exact ⟨r, zs, he, hi, hd, hv.trans hsum, by omega, fun b h => haw b (by simp; omega), W2.trans (hb.mono (by simp; omega))⟩
  clear hD W2 fa
  subst v; subst u
  go_enter Tryz.func78, Tryz.ntmps78
  go_wp2_with fail
  refine HF.out.mono ?_
  rintro e w1 ⟨r, zs, rfl, i1, d1, v1, l1, aw1, b1⟩
  have V1 := Lib.hid v1
  have AW := Lib.hid aw1
  clear v1 aw1
  go_wp2_with (go_at_call 101; refine (trimmed_any w1 (by omega) i1).mono ?_; rintro e w' ⟨r', k, rfl, hc, hi, haw2, rfl⟩)
  go_ret
  exact ⟨_, rfl, num_of_trim d1 V1.out hc hi, fun b h => haw2 b (AW.out b h), b1⟩

set_option maxRecDepth 100000 in
set_option maxHeartbeats 1000000 in
theorem by_any (v : Value) (a : Nat) (k : Int) (k0 : 0 ≤ k) (k1 : k ≤ 9999) (w : World) (ha : Num w v a) (fa : Fits a) : Calls Tryz.prog 102 #[v, .int .i64 k] w (NumPost w (a * k.toNat)) := by
  obtain ⟨xs, ix, rx⟩ := ha
  have lx := rep_short rx fa
  obtain ⟨av, cv, ev⟩ := ix.shape
  have W2 : Below w.heap.size w ((w.alloc (.cells #[v] 89)).alloc (.cells #[.int .i64 k] 3)) := ((Below.refl _ w).alloc (Nat.le_refl _) _).alloc (by simp) _
  have hD : DigitAt 123 #[.pointer (some ⟨w.heap.size, 0, none⟩), .pointer (some ⟨w.heap.size + 1, 0, none⟩)] (fun i => xs[i]?.getD 0 * k) ((w.alloc (.cells #[v] 89)).alloc (.cells #[.int .i64 k] 3)) := by
    intro i W hW
    refine by1_any _ _ v xs k k0 k1 i W ((ix.boxed _).boxed _ |>.below (Nat.le_refl _) hW) rx.good ?_ ?_
    · rw [hW.cell (by simp; omega), World.cell?_alloc_past _ _ _ (by simp), World.cell?_alloc_at _ _ _ _ rfl]; rfl
    · rw [hW.cell (by simp), World.cell?_alloc_at _ _ _ _ (by simp)]; rfl
  have HF : Hid (Calls Tryz.prog 105 #[.int .i64 (xs.length : Int), .int .i64 0, .func (.func 123) #[] #[.pointer (some ⟨w.heap.size, 0, none⟩), .pointer (some ⟨w.heap.size + 1, 0, none⟩)]]
      ((w.alloc (.cells #[v] 89)).alloc (.cells #[.int .i64 k] 3)) fun e w' => ∃ r zs, e = .returned r ∧ Ints w' r zs ∧ Dgs 10000 zs ∧ val 10000 zs = ((a * k.toNat : Nat) : Int) ∧ zs.length ≤ 1002 ∧ (∀ b, b < w.heap.size → Away b r) ∧ Below w.heap.size w w') := by
    have hsum : sumTo 10000 (fun i => xs[i]?.getD 0 * k) xs.length = ((a * k.toNat : Nat) : Int) := by
      rw [sumTo_mul, sumTo_all _ _ _ (by omega), rx.val, Int.natCast_mul, show ((k.toNat : Nat) : Int) = k by omega]
    refine (fold_any 123 _ _ xs.length _ (enters_of Tryz.func123 (by kernel_rfl) rfl) (by omega)
      (fun i => by have h1 := good_small rx.good i; have := mul_small h1.1 h1.2 k0 k1; omega)
      (fun i hi => by rw [List.getElem?_eq_none (by omega)]; simp) (by rw [hsum]; omega) hD).mono ?_
    rintro e w' ⟨r, zs, he, hi, hd, hv, hl, haw, hb⟩
    exact ⟨r, zs, he, hi, hd, hv.trans hsum, by omega, fun b h => haw b (by simp; omega), W2.trans (hb.mono (by simp; omega))⟩
  clear hD W2 fa
  subst v
  go_enter Tryz.func102, Tryz.ntmps102
  go_wp2_with fail
  refine HF.out.mono ?_
  rintro e w1 ⟨r, zs, rfl, i1, d1, v1, l1, aw1, b1⟩
  have V1 := Lib.hid v1
  have AW := Lib.hid aw1
  clear v1 aw1
  go_wp2_with (go_at_call 101; refine (trimmed_any w1 (by omega) i1).mono ?_; rintro e w' ⟨r', k, rfl, hc, hi, haw2, rfl⟩)
  go_ret
  exact ⟨_, rfl, num_of_trim d1 V1.out hc hi, fun b h => haw2 b (AW.out b h), b1⟩

/-- 'one()'. -/
theorem one_any (w : World) : Calls Tryz.prog 77 #[] w (NumPost w 1) := by
  go_enter Tryz.func77, Tryz.ntmps77
  go_wp2
  go_ret
  refine ⟨_, rfl, ⟨[1], .inr ⟨w.heap.size, 0, 1, rfl, by simp, by simp, fun j hj => ?_⟩, ⟨Dgs.one (by decide) (by decide), by simp [Nrm], rfl⟩⟩, fun b h => away_at w.heap.size 0 1 1 b h, (Below.refl _ w).alloc (Nat.le_refl _) _⟩
  have : j = 0 := by simpa using hj
  subst this
  simp [World.cell?_alloc_at]

end Go.Proofs.Tryz

namespace Go.Proofs.Tryz
open Go.RowKit Go.Proofs.Dt Go.Shelf

attribute [local go_sem] Oper.semAt_some

/-- The indices that have come when k rounds are over: the last one first. -/
def dn (L k : Nat) : List Nat := (List.range k).map fun j => L - 1 - j
theorem dn_succ (L k : Nat) : dn L (k + 1) = dn L k ++ [L - 1 - k] := by simp [dn, List.range_succ]
theorem dn_length (L k : Nat) : (dn L k).length = k := by simp [dn]

/-- The group at an index. -/
def grp (xs : List Int) (x : Fin xs.length) : Int := xs[x.val]
theorem grp_eq (xs : List Int) (x : Fin xs.length) : xs[x.val]?.getD 0 = grp xs x := by unfold grp; simp

/-- What a round keeps: whatever lies below n₀, and the iterator's own box. -/
structure KeepsBox (n₀ Bs : Nat) (W W' : World) : Prop where
  below : Below n₀ W W'
  box : W'.cell? ⟨Bs, 0, none⟩ = W.cell? ⟨Bs, 0, none⟩
theorem KeepsBox.refl (n₀ Bs : Nat) (W : World) : KeepsBox n₀ Bs W W := ⟨Below.refl _ _, rfl⟩
theorem KeepsBox.trans {n₀ Bs : Nat} {A B C : World} (h : KeepsBox n₀ Bs A B) (k : KeepsBox n₀ Bs B C) : KeepsBox n₀ Bs A C := ⟨h.below.trans k.below, k.box.trans h.box⟩
theorem KeepsBox.of_below {n₀ Bs k : Nat} {W W' : World} (h : Below k W W') (h1 : n₀ ≤ k) (h2 : Bs < k) : KeepsBox n₀ Bs W W' := ⟨h.mono h1, h.cell h2⟩
theorem KeepsBox.setCell {n₀ Bs : Nat} (W : World) (b : Nat) (v : Value) (h1 : n₀ ≤ b) (h2 : b ≠ Bs) : KeepsBox n₀ Bs W (W.setCell ⟨b, 0, none⟩ v) :=
  ⟨(Below.refl _ _).setCell (p := ⟨b, 0, none⟩) h1 v, World.cell?_of_block (w := W) (Below.heap_setCell _ _ _ _ (by simpa using fun e => h2 e.symm))⟩
theorem KeepsBox.alloc {n₀ Bs : Nat} {W : World} (o : Obj) (h1 : n₀ ≤ W.heap.size) (h2 : Bs < W.heap.size) : KeepsBox n₀ Bs W (W.alloc o) := KeepsBox.of_below ((Below.refl _ W).alloc (Nat.le_refl _) o) h1 h2
theorem keepsBox_t {n₀ Bs : Nat} {A B C : World} (h : KeepsBox n₀ Bs A B) (k : KeepsBox n₀ Bs B C) : KeepsBox n₀ Bs A C := h.trans k
theorem keepsBox_b {n₀ Bs : Nat} {w : World} (hn : n₀ ≤ w.heap.size) (hb : Bs < w.heap.size) (W : World) (l : Nat) (o o' : Obj) (h : w.heap.size ≤ l) (h1 : W.heap[l]? = some o) (h2 : o.isCells = false) (h3 : o.isWalk = false) : KeepsBox n₀ Bs W (W.putObj l o') :=
  ⟨belowK_b (w := w) hn W l o o' h h1 h2 h3, World.cell?_of_block (w := W) (World.putObj_heap_other (by show Bs ≠ l; omega))⟩

set_option maxRecDepth 100000 in
set_option maxHeartbeats 2000000 in
theorem back1_in (F : Fence) (n : Nat) (hfn : F.fn 122) (hro : F.round = none) (hn : 1 ≤ n) (l Bs n₀ b off cap : Nat) (xs : List Int) (hreach : xs.length ≤ 100000) (hb : b < n₀) (J Jx : List (Fin xs.length) → World → Prop)
    (hY : ∀ pre x W, J pre W → pre.length < xs.length → YieldAt F (n - 1) Tryz.prog l #[.int .i64 (x.val : Int), .int .i64 (grp xs x)] W fun e W' =>
      (e = .returned (.bool true) ∧ J (pre ++ [x]) W' ∧ KeepsBox n₀ Bs W W') ∨ (e = .returned (.bool false) ∧ Jx (pre ++ [x]) W'))
    (W : World) (hBc : W.cell? ⟨Bs, 0, none⟩ = some (.slice (some ⟨b, off, none⟩) xs.length cap)) (hc : ∀ j, j < xs.length → W.cell? ⟨b, off + j, none⟩ = some (.int .i64 (xs[j]?.getD 0))) (h0 : J [] W) :
    CallsIn F n Tryz.prog 122 #[.func (.yield l) #[] #[], .pointer (some ⟨Bs, 0, none⟩)] W fun e W' => (∃ v, e = .returned v) ∧
      ((∃ ys, ys.map Fin.val = dn xs.length xs.length ∧ J ys W') ∨ (∃ pre, (∃ k, k ≤ xs.length ∧ pre.map Fin.val = dn xs.length k) ∧ Jx pre W')) := by
  refine callsIn_of_wp Tryz.func122 rfl hfn ?_ hro
  simp only [Tryz.ntmps122, List.size_toArray, List.length_cons, List.length_nil, Nat.reduceAdd, Nat.reduceSub, Array.replicate_succ, Array.replicate_zero, List.push_toArray, List.append_toArray, List.nil_append, List.cons_append]
  gi_wp2
  gi_loopw [3] (fun i wr => ∃ k : Nat, k ≤ xs.length ∧ i = .int .i64 ((xs.length : Int) - 1 - k) ∧ (∃ pre : List (Fin xs.length), pre.map Fin.val = dn xs.length k ∧ J pre wr) ∧ KeepsBox n₀ Bs W wr)
    (fun i _ => (intOf i + 1).toNat)
  case atStart => exact ⟨0, Nat.zero_le _, by simp, ⟨[], rfl, h0⟩, KeepsBox.refl _ _ _⟩
  case round =>
    obtain ⟨k, hk, rfl, ⟨pre, hpre, hJs⟩, hnx⟩ := hrel
    have hpl : pre.length = k := by rw [← List.length_map (f := Fin.val), hpre, dn_length]
    have HPRE := Lib.hid hpre
    have HPL := Lib.hid hpl
    clear hpre hpl
    have hBr := hnx.box.trans hBc
    by_cases hlt : k < xs.length
    · have hcx : wr.cell? ⟨b, off + (xs.length - 1 - k), none⟩ = some (.int .i64 (xs[xs.length - 1 - k]?.getD 0)) := (hnx.below.cell (p := ⟨b, off + (xs.length - 1 - k), none⟩) hb).trans (hc _ (by omega))
      obtain ⟨fn, tmps, assign, body, hy, hR⟩ := hY _ ⟨xs.length - 1 - k, by omega⟩ wr hJs (by rw [HPL.out]; exact hlt)
      dsimp only at hy
      rw [← grp_eq] at hy
      rw [show ((xs.length - 1 - k : Nat) : Int) = (xs.length : Int) - 1 - k by omega] at hy
      have e1 : ((xs.length : Int) - 1 - k).toNat = xs.length - 1 - k := by omega
      gi_wp2
      refine hR.mono ?_
      rintro e W3 (⟨rfl, hJ3, hk3⟩ | ⟨rfl, hJx3⟩)
      · gi_wp2
        go_roundw
        case rel => exact ⟨k + 1, by omega, by go_num, ⟨_, by rw [dn_succ, List.map_append, HPRE.out]; rfl, hJ3⟩, hnx.trans hk3⟩
        case measure => simp [intOf]; omega
      · gi_wp2
        refine bodyPost_ret (results_none rfl _ _ _) rfl ?_
        exact ⟨⟨_, rfl⟩, .inr ⟨_, ⟨k + 1, by omega, by rw [dn_succ, List.map_append, HPRE.out]; rfl⟩, hJx3⟩⟩
    · have hk2 : k = xs.length := by omega
      have HK2 := Lib.hid hk2
      clear hk2
      gi_wp2
      go_end0
      exact ⟨⟨_, rfl⟩, .inl ⟨_, by rw [HPRE.out, HK2.out], hJs⟩⟩

set_option maxRecDepth 100000 in
set_option maxHeartbeats 1000000 in
/-- .. at the nil slice: no round. -/
theorem back1_nil_in (F : Fence) (n : Nat) (hfn : F.fn 122) (hro : F.round = none) {α : Type} (l Bs : Nat) (J : List α → World → Prop) (W : World) (hBs : W.cell? ⟨Bs, 0, none⟩ = some (.slice none 0 0)) (h0 : J [] W) :
    CallsIn F n Tryz.prog 122 #[.func (.yield l) #[] #[], .pointer (some ⟨Bs, 0, none⟩)] W fun e W' => (∃ v, e = .returned v) ∧ J [] W' := by
  refine callsIn_of_wp Tryz.func122 rfl hfn ?_ hro
  simp only [Tryz.ntmps122, List.size_toArray, List.length_cons, List.length_nil, Nat.reduceAdd, Nat.reduceSub, Array.replicate_succ, Array.replicate_zero, List.push_toArray, List.append_toArray, List.nil_append, List.cons_append]
  gi_wp2
  gi_loopw [3] (fun i wr => i = .int .i64 (-1) ∧ J [] wr) (fun _ _ => 0)
  case atStart => exact ⟨rfl, h0⟩
  case round =>
    obtain ⟨rfl, hJs⟩ := hrel
    gi_wp2
    go_end0
    exact ⟨⟨_, rfl⟩, hJs⟩

set_option maxHeartbeats 1000000 in
/-- 'slices.Backward(l)': the slice is boxed; the function value captures the box. -/
theorem back_in (F : Fence) (n : Nat) (hfn : F.fn 100) (hro : F.round = none) (a : Option Addr) (len cap : Nat) (w : World) :
    CallsIn F n Tryz.prog 100 #[.slice a len cap] w fun e w' => e = .returned (.func (.func 122) #[] #[.pointer (some ⟨w.heap.size, 0, none⟩)]) ∧ w' = w.alloc (.cells #[.slice a len cap] 89) := by
  refine callsIn_of_wp Tryz.func100 rfl hfn ?_ hro
  simp only [Tryz.ntmps100, List.size_toArray, List.length_cons, List.length_nil, Nat.reduceAdd, Nat.reduceSub, Array.replicate_succ, Array.replicate_zero, List.push_toArray, List.append_toArray, List.nil_append, List.cons_append]
  gi_wp2
  go_ret
  exact ⟨rfl, rfl⟩

/-- The iterator's contract. -/
theorem back_stops (F : Fence) (n : Nat) (hfn : F.fn 122) (hro : F.round = none) (hn : 1 ≤ n) (Bs n₀ : Nat) (sv : Value) (xs : List Int) (hreach : xs.length ≤ 100000) (w : World) (hBs : Bs < w.heap.size)
    (hc : w.cell? ⟨Bs, 0, none⟩ = some sv) (w1 : World) (h1 : w1.heap.size ≤ n₀) (h2 : Below w1.heap.size w1 w) (hI : Ints w1 sv xs) :
    SeqStopsK F n Tryz.prog 122 #[.pointer (some ⟨Bs, 0, none⟩)] (fun x : Fin xs.length => #[Value.int .i64 (x.val : Int), Value.int .i64 (grp xs x)]) (KeepsBox n₀ Bs) (fun ys => ys.map Fin.val = dn xs.length xs.length)
      (fun pre => ∃ k, k ≤ xs.length ∧ pre.map Fin.val = dn xs.length k) xs.length w := fun l J Jx W hW _ _ hY h0 => by
  have hc' := (hW.cell (p := ⟨Bs, 0, none⟩) hBs).trans hc
  have hI' := hI.below (Nat.le_refl _) (h2.trans (hW.mono h2.size))
  have hI2 := hI
  rcases hI with ⟨rfl, rfl⟩ | ⟨b, off, cap, rfl, _, hb, hcs⟩
  · exact (back1_nil_in F n hfn hro l Bs J W hc' h0).mono fun e W' ⟨he, hj⟩ => ⟨he, .inl ⟨_, rfl, hj⟩⟩
  · exact back1_in F n hfn hro hn l Bs n₀ b off cap xs hreach (by omega) J Jx hY W hc' (fun j hj => ((h2.trans (hW.mono h2.size)).cell (p := ⟨b, off + j, none⟩) hb).trans (hcs j hj)) h0

end Go.Proofs.Tryz

namespace Go.Proofs.Tryz
open Go.RowKit Go.Proofs.Dt Go.Shelf

attribute [local go_sem] Oper.semAt_some

set_option maxRecDepth 100000 in
set_option maxHeartbeats 1000000 in
/-- Lists of different lengths. -/
theorem compare_len (a1 a2 : Option Addr) (n1 n2 c1 c2 : Nat) (w : World) (hne : n1 ≠ n2) :
    Calls Tryz.prog 80 #[.slice a1 n1 c1, .slice a2 n2 c2] w fun e w' => e = .returned (.int .i64 (cmpI n1 n2)) ∧ Below w.heap.size w w' := by
  have hd : ((n1 : Int) != (n2 : Int)) = true := by simpa using (by omega : (n1 : Int) ≠ n2)
  go_enter Tryz.func80, Tryz.ntmps80
  go_wp2_with fail
  refine (cmp_any _ _ _).mono ?_
  rintro e w' ⟨rfl, rfl⟩
  go_wp2
  refine bodyPost_ret (v := .int .i64 (cmpI n1 n2)) (by simp [results, Tryz.results80, go_sem]) rfl ⟨rfl, ?_⟩
  exact ((Below.refl _ w).alloc (Nat.le_refl _) _).alloc (by simp) _

set_option maxRecDepth 100000 in
set_option maxHeartbeats 2000000 in
theorem compare_in (F : Fence) (n : Nat) (hf0 : F.fn 80) (hf1 : F.fn 100) (hf2 : F.fn 122) (hf3 : F.fn 109) (hro : F.round = none) (hn : 3 ≤ n)
    (hC : ∀ (m : Nat) (x y : Int) (W : World), CallsIn F m Tryz.prog 109 #[.int .i64 x, .int .i64 y] W fun e w' => e = .returned (.int .i64 (cmpI x y)) ∧ W = w')
    (v u : Value) (xs ys : List Int) (w : World) (ix : Ints w v xs) (iy : Ints w u ys) (hlen : xs.length = ys.length) (hl : xs.length ≤ 1000) :
    CallsIn F n Tryz.prog 80 #[v, u] w fun e W' =>
      ((e = .returned (.int .i64 0) ∧ xs = ys) ∨ (∃ k : Nat, k < xs.length ∧ e = .returned (.int .i64 (cmpI (xs[k]?.getD 0) (ys[k]?.getD 0))) ∧ xs[k]?.getD 0 ≠ ys[k]?.getD 0 ∧ xs.drop (k + 1) = ys.drop (k + 1))) ∧ Below w.heap.size w W' := by
  obtain ⟨av, cv, rfl⟩ := ix.shape
  obtain ⟨au, cu, rfl⟩ := iy.shape
  have hd : ((xs.length : Int) != (ys.length : Int)) = false := by rw [hlen]; simp
  have h1 : 1 ≤ n := by omega
  have h11 : 1 ≤ n - 1 - 1 := by omega
  refine callsIn_of_wp_marks Tryz.func80 rfl hf0 ?_ hro
  simp only [Tryz.ntmps80, List.size_toArray, List.length_cons, List.length_nil, Nat.reduceAdd, Nat.reduceSub, Array.replicate_succ, Array.replicate_zero, List.push_toArray, List.append_toArray, List.nil_append, List.cons_append]
  have HL := Lib.hid hlen
  clear hlen
  gi_wp2_with (gi_at_call 100; refine (back_in F (n - 1) hf1 hro _ _ _ _).mono ?_; rintro e w' ⟨rfl, rfl⟩)
  have hB0 : Below w.heap.size w (((w.alloc (.cells #[.slice au ys.length cu] 89)).alloc (.cells #[.int .i64 0] 3)).alloc (.cells #[.slice av xs.length cv] 89)) := (((Below.refl _ w).alloc (Nat.le_refl _) _).alloc (by simp) _).alloc (by simp; omega) _
  have bM := Boxed.new w 89 (.slice au ys.length cu)
  have bR := Boxed.new (w.alloc (.cells #[.slice au ys.length cu] 89)) 3 (.int .i64 0)
  have bI := Boxed.new ((w.alloc (.cells #[.slice au ys.length cu] 89)).alloc (.cells #[.int .i64 0] 3)) 89 (.slice av xs.length cv)
  rw [World.size_alloc] at bR
  rw [World.size_alloc, World.size_alloc] at bI
  have bM := (bM.alloc (.cells #[.int .i64 0] 3)).alloc (.cells #[.slice av xs.length cv] 89)
  have bR := bR.alloc (.cells #[.slice av xs.length cv] 89)
  obtain ⟨W0, hW0⟩ : ∃ W0, W0 = (((w.alloc (.cells #[.slice au ys.length cu] 89)).alloc (.cells #[.int .i64 0] 3)).alloc (.cells #[.slice av xs.length cv] 89)) := ⟨_, rfl⟩
  have s0 : W0.heap.size = w.heap.size + 3 := by rw [hW0]; simp
  rw [← hW0] at bM bR bI
  rw [← hW0] at hB0 ⊢
  clear hW0
  refine wpIn_rangeFunc_ownG hro h1 (gf := 122) (lb := #[.pointer (some ⟨w.heap.size + 1 + 1, 0, none⟩)]) rfl hf2 (enters_of Tryz.func122 (by kernel_rfl) rfl)
    (back_stops F (n - 1) hf2 hro (by omega) (w.heap.size + 1 + 1) w.heap.size _ xs (by omega) W0 (by omega) bI.cell w (Nat.le_refl _) hB0 ix) keepsBox_t (keepsBox_b (by omega) (by omega)) (Below.refl _ _) (fun _ => rfl)
    (fun pre W => ((∀ p ∈ pre, grp xs p = ys[p.val]?.getD 0) ∧ W.cell? ⟨w.heap.size, 0, none⟩ = some (.slice au ys.length cu) ∧ W.cell? ⟨w.heap.size + 1, 0, none⟩ = some (.int .i64 0) ∧ W.frozen? ⟨w.heap.size + 1, 0, none⟩ = false) ∧ Below w.heap.size w W)
    (fun c pre W => (c = .ret ∧ ∃ ini last, pre = ini ++ [last] ∧ (∀ p ∈ ini, grp xs p = ys[p.val]?.getD 0) ∧ grp xs last ≠ ys[last.val]?.getD 0 ∧ W.cell? ⟨w.heap.size + 1, 0, none⟩ = some (.int .i64 (cmpI (grp xs last) (ys[last.val]?.getD 0)))) ∧ Below w.heap.size w W)
    (OwnFrom.and (Own.from (fun s A B row hs hg hr => ⟨hs.1, cell_kept hs.2.1 hg hr, cell_kept hs.2.2.1 hg hr, (frozen_kept hs.2.2.1 hg hr).trans hs.2.2.2⟩) _) (ownFrom_below (Nat.le_refl _) (by omega)))
    (fun c => OwnFrom.and (Own.from (fun s A B row hs hg hr => by obtain ⟨hc, ini, last, e1, e2, e3, e4⟩ := hs; exact ⟨hc, ini, last, e1, e2, e3, cell_kept e4 hg hr⟩) _) (ownFrom_below (Nat.le_refl _) (by omega)))
    ⟨⟨by simp, bM.cell, bR.cell, bR.frozen⟩, hB0⟩
    (fun x => { tmps := #[.slice av xs.length cv, .slice au ys.length cu, undef, .pointer (some ⟨w.heap.size, 0, none⟩), .pointer (some ⟨w.heap.size + 1, 0, none⟩), .int .i64 (x.val : Int), .int .i64 (grp xs x), .slice av xs.length cv, .int .i64 xs.length, .slice au ys.length cu, .int .i64 ys.length, .bool false, undef, undef, undef, undef, undef, .slice av xs.length cv,
      .func (.func 122) #[] #[.pointer (some ⟨w.heap.size + 1 + 1, 0, none⟩)], .int .i64 (x.val : Int), .int .i64 (grp xs x), undef, undef, undef, undef, undef, undef, undef, undef, undef, undef, undef, undef], defers := [] }) ?assign ?body ?done ?stop
  case assign =>
    intro l x W K hK
    gi_wp2
    exact hK
  case body =>
    rintro l pre x W ⟨⟨hp, hm, hr, hf⟩, hB⟩ hlt
    have hxl := x.isLt
    rcases iy with ⟨_, rfl⟩ | ⟨b, off, cap, hu, _, hb, hcs⟩
    · have := HL.out; rw [List.length_nil] at this; omega
    · simp only [Value.slice.injEq] at hu
      obtain ⟨rfl, _, rfl⟩ := hu
      have hcx := (hB.cell (p := ⟨b, off + x.val, none⟩) hb).trans (hcs x.val (by rw [← HL.out]; exact hxl))
      have hxy : x.val < ys.length := by rw [← HL.out]; exact hxl
      generalize hX : grp xs x = X
      generalize hY : ys[x.val]?.getD 0 = Y at hcx
      have HX := Lib.hid hX
      have HY := Lib.hid hY
      have HP := Lib.hid hp
      clear hX hY hp hcs hlt
      by_cases e : X = Y
      · have he : (X != Y) = false := by simpa using e
        have E := Lib.hid e
        clear e
        gi_wp2
        exact ⟨KeepsFrom.refl _ _, KeepsBox.refl _ _ _, ⟨fun p hp' => (List.mem_append.1 hp').elim (HP.out p) (fun e => by rw [List.mem_singleton] at e; subst e; rw [HX.out, HY.out]; exact E.out), hm, hr, hf⟩, hB⟩
      · have he : (X != Y) = true := by simpa using e
        have E := Lib.hid e
        clear e
        gi_wp2_with (gi_at_call 109; go_must (refine (CallsIn.inRound l (hC _ _ _ _)).mono ?_); rintro e w' ⟨rfl, rfl⟩)
        exact ⟨(KeepsOthers.setCell _ _ _).from _, ⟨rfl, pre, x, rfl, HP.out, by rw [HX.out, HY.out]; exact E.out, by rw [HX.out, HY.out]; exact World.cell?_setCell_same' _ _ _ (by rw [hr]; rfl)⟩, hB.setCell (p := ⟨w.heap.size + 1, 0, none⟩) (by show w.heap.size ≤ w.heap.size + 1; omega) _⟩
  case done =>
    rintro D zs W hD hzs ⟨⟨hp, hm, hr, hf⟩, hB⟩ hK
    have HZ := Lib.hid hzs
    have HP := Lib.hid hp
    clear hzs hp
    gi_wp2
    have hK' := (KeepsOthers.setCell W ⟨w.heap.size + 1, 0, none⟩ (.int .i64 0)).same D _ hK rfl
    refine ⟨by simp, .inl ⟨_, _, rfl, run_takeDeferred hK', ?_⟩⟩
    have hc5 := cell_kept (World.cell?_setCell_same' W ⟨w.heap.size + 1, 0, none⟩ (.int .i64 0) (by rw [hr]; rfl)) (grownBy_putObj' _ D (.deferred none)) (fun r e => by cases e; exact ⟨_, hK', rfl⟩)
    refine ⟨.int .i64 0, by simp [results, Tryz.f80, go_sem, hc5], .inl ⟨rfl, ?_⟩, (hB.setCell (p := ⟨w.heap.size + 1, 0, none⟩) (by show w.heap.size ≤ w.heap.size + 1; omega) _).trans (belowK_b (w := w) (Nat.le_refl _) _ D _ _ (by omega) hK' rfl rfl)⟩
    refine List.ext_getElem HL.out (fun i h1 h2 => ?_)
    have hm : (⟨i, h1⟩ : Fin xs.length) ∈ zs := by
      have : i ∈ zs.map Fin.val := by
        rw [HZ.out]; unfold dn; rw [List.mem_map]; exact ⟨xs.length - 1 - i, by simp; omega, by omega⟩
      obtain ⟨y, hy, rfl⟩ := List.mem_map.1 this
      exact hy
    have := HP.out _ hm
    simpa [grp, h2] using this
  case stop =>
    rintro D c pre W hD ⟨k, hk, hpre⟩ ⟨⟨rfl, ini, last, e1, e2, e3, hcr⟩, hB⟩ hK
    have H1 := Lib.hid hpre
    have H2 := Lib.hid e1
    have H3 := Lib.hid e2
    have H4 := Lib.hid e3
    clear hpre e1 e2 e3
    gi_wp2
    refine ⟨by simp, .inl ⟨_, _, rfl, run_takeDeferred hK, ?_⟩⟩
    have hc5 := cell_kept hcr (grownBy_putObj' _ D (.deferred none)) (fun r e => by cases e; exact ⟨_, hK, rfl⟩)
    have hk' : k ≠ 0 := by
      intro e0; have := H1.out; rw [H2.out, e0] at this; simp [dn] at this
    obtain ⟨k', rfl⟩ : ∃ k', k = k' + 1 := ⟨k - 1, by omega⟩
    have hlast : last.val = xs.length - 1 - k' ∧ ini.map Fin.val = dn xs.length k' := by
      have := H1.out
      rw [H2.out, dn_succ, List.map_append] at this
      obtain ⟨h1, h2⟩ := List.append_inj' this rfl
      exact ⟨by simpa using h2, h1⟩
    refine ⟨.int .i64 (cmpI (grp xs last) (ys[last.val]?.getD 0)), by simp [results, Tryz.f80, go_sem, hc5], .inr ⟨last.val, last.isLt, by rw [grp_eq], by rw [grp_eq]; exact H4.out, ?_⟩, hB.trans (belowK_b (w := w) (Nat.le_refl _) W D _ _ (by omega) hK rfl rfl)⟩
    refine List.ext_getElem (by have := HL.out; rw [List.length_drop, List.length_drop]; omega) (fun i h1 h2 => ?_)
    rw [List.getElem_drop, List.getElem_drop]
    rw [List.length_drop] at h1 h2
    have hlt : last.val + 1 + i < xs.length := by omega
    have hm : (⟨last.val + 1 + i, hlt⟩ : Fin xs.length) ∈ ini := by
      have : last.val + 1 + i ∈ ini.map Fin.val := by
        rw [hlast.2]; unfold dn; rw [List.mem_map]; exact ⟨xs.length - 1 - (last.val + 1 + i), by simp; omega, by omega⟩
      obtain ⟨y, hy, hyy⟩ := List.mem_map.1 this
      have : y = ⟨last.val + 1 + i, hlt⟩ := Fin.ext hyy
      rw [← this]; exact hy
    have := H3.out _ hm
    have h3 : last.val + 1 + i < ys.length := by have := HL.out; omega
    simpa [grp, h3] using this

/-- 'compare' of two numbers. -/
theorem compare_any (v u : Value) (a b : Nat) (w : World) (ha : Num w v a) (hb : Num w u b) (fa : Fits a) : Calls Tryz.prog 80 #[v, u] w fun e w' => e = .returned (.int .i64 (cmpI a b)) ∧ Below w.heap.size w w' := by
  obtain ⟨xs, ix, rx⟩ := ha
  obtain ⟨ys, iy, ry⟩ := hb
  have lx := rep_short rx fa
  by_cases hl : xs.length = ys.length
  · refine (callsIn_wide.1 (compare_in Fence.wide 3 trivial trivial trivial trivial rfl (Nat.le_refl _) (fun m x y W => callsIn_wide.2 (cmp_any x y W)) v u xs ys w ix iy hl lx)).mono ?_
    rintro e w' ⟨h, hw⟩
    refine ⟨?_, hw⟩
    rcases h with ⟨rfl, rfl⟩ | ⟨k, hk, rfl, hne, hdr⟩
    · have : (a : Int) = b := by rw [← rx.val, ← ry.val]
      rw [this]; simp [cmpI]
    · congr 2
      unfold cmpI
      rcases Int.lt_trichotomy (xs[k]?.getD 0) (ys[k]?.getD 0) with h | h | h
      · have := lt_of_differ (by decide) rx ry hl hk hdr h
        rw [if_pos h, if_pos (by omega)]
      · exact absurd h hne
      · have := lt_of_differ (by decide) ry rx hl.symm (by omega) hdr.symm h
        rw [if_neg (by omega), if_pos h, if_neg (by omega), if_pos (by omega)]
  · obtain ⟨a1, c1, rfl⟩ := ix.shape
    obtain ⟨a2, c2, rfl⟩ := iy.shape
    refine (compare_len a1 a2 _ _ c1 c2 w hl).mono ?_
    rintro e w' ⟨rfl, hw⟩
    refine ⟨?_, hw⟩
    congr 2
    unfold cmpI
    rcases Nat.lt_trichotomy xs.length ys.length with h | h | h
    · have := lt_of_length (by decide) rx ry h
      rw [if_pos (by omega), if_pos (by omega)]
    · exact absurd h hl
    · have := lt_of_length (by decide) ry rx h
      rw [if_neg (by omega), if_pos (by omega), if_neg (by omega), if_pos (by omega)]

end Go.Proofs.Tryz

namespace Go.Proofs.Tryz
open Go.RowKit Go.Proofs.Dt Go.Shelf

attribute [local go_sem] Oper.semAt_some

theorem boxed_below {W W' : World} {B k : Nat} {t : TypeId} {v : Value} (h : Boxed W B t v) (hb : Below k W W') (hk : B < k) : Boxed W' B t v := (hb.block B hk).trans h
theorem Num.shape {W : World} {v : Value} {n : Nat} (h : Num W v n) : ∃ a len cap, v = .slice a len cap := by
  obtain ⟨xs, ix, _⟩ := h; obtain ⟨a, c, e⟩ := ix.shape; exact ⟨_, _, _, e⟩

theorem Ints.setBox {W : World} {v : Value} {xs : List Int} {B : Nat} {t : TypeId} {u : Value} (h : Ints W v xs) (hb : Boxed W B t u) (hu : ∀ i, u ≠ .int .i64 i) (u' : Value) : Ints (W.setCell ⟨B, 0, none⟩ u') v xs := by
  rcases h with h | ⟨b, off, cap, hv, hc, hlt, hcell⟩
  · exact .inl h
  · refine .inr ⟨b, off, cap, hv, hc, by simpa [World.setCell] using hlt, fun j hj => ?_⟩
    have hj' := hcell j hj
    by_cases e : b = B
    · subst e
      exfalso
      simp only [World.cell?, show W.heap[b]? = _ from hb] at hj'
      cases hk : off + j with
      | zero => rw [hk] at hj'; simp at hj'; exact hu _ hj'
      | succ k => rw [hk] at hj'; simp at hj'
    · exact (World.cell?_of_block (w := W) (Below.heap_setCell _ _ _ _ e)).trans hj'
theorem Num.setBox {W : World} {v : Value} {n : Nat} {B : Nat} {t : TypeId} {u : Value} (h : Num W v n) (hb : Boxed W B t u) (hu : ∀ i, u ≠ .int .i64 i) (u' : Value) : Num (W.setCell ⟨B, 0, none⟩ u') v n :=
  let ⟨xs, h1, h2⟩ := h; ⟨xs, h1.setBox hb hu u', h2⟩
theorem keepsOthers_below {W W' : World} (h : Below W.heap.size W W') : KeepsOthers W W' := ⟨h.size, fun k _ hk _ => (h.block k (Array.getElem?_eq_some_iff.1 hk).1).trans hk⟩
theorem boxed_other {W : World} {B B' : Nat} {t : TypeId} {v : Value} (h : Boxed W B t v) (u : Value) (hne : B ≠ B') : Boxed (W.setCell ⟨B', 0, none⟩ u) B t v := (Below.heap_setCell _ _ _ _ hne).trans h

theorem rep_shift {zs : List Int} {n : Nat} (h : RepN 10000 zs n) (h0 : zs ≠ []) : RepN 10000 (0 :: zs) (n * 10000) := by
  refine ⟨Dgs.cons (by decide) (by decide) h.good, ?_, ?_⟩
  · have := h.norm
    unfold Nrm at *
    cases zs with
    | nil => exact absurd rfl h0
    | cons z r => rwa [List.getLast?_cons_cons]
  · rw [val_cons, h.val]; omega

/-- The end of a round: the new number is stored. -/
theorem times_end {w W w2 : World} {N K : Nat} {lv v2 o : Value} (hB : Below w.heap.size w W) (hs : w.heap.size + 3 ≤ W.heap.size) (hbl : Boxed W w.heap.size 89 lv) (hbo : Boxed W (w.heap.size + 1) 89 o) (ho : ∀ i, o ≠ .int .i64 i) (hb : Below W.heap.size W w2) (hr : Num w2 v2 N) :
    KeepsFrom K W (w2.setCell ⟨w.heap.size + 1, 0, none⟩ v2) ∧ KeepsBox w.heap.size (w.heap.size + 1 + 1) W (w2.setCell ⟨w.heap.size + 1, 0, none⟩ v2) ∧ Boxed (w2.setCell ⟨w.heap.size + 1, 0, none⟩ v2) w.heap.size 89 lv ∧
      Boxed (w2.setCell ⟨w.heap.size + 1, 0, none⟩ v2) (w.heap.size + 1) 89 v2 ∧ Num (w2.setCell ⟨w.heap.size + 1, 0, none⟩ v2) v2 N ∧ w.heap.size + 3 ≤ (w2.setCell ⟨w.heap.size + 1, 0, none⟩ v2).heap.size ∧ Below w.heap.size w (w2.setCell ⟨w.heap.size + 1, 0, none⟩ v2) := by
  have hbo2 := boxed_below hbo hb (by omega)
  have hbl2 := boxed_below hbl hb (by omega)
  refine ⟨((keepsOthers_below hb).trans (KeepsOthers.setCell _ _ _)).from _, (KeepsBox.of_below hb (by omega) (by omega)).trans (KeepsBox.setCell _ _ _ (by omega) (by omega)), boxed_other hbl2 _ (by omega), hbo2.set _, hr.setBox hbo2 ho _, ?_, (hB.trans (hb.mono (by omega))).setCell (by show w.heap.size ≤ w.heap.size + 1; omega) _⟩
  have := hb.size
  simp only [World.setCell, Array.size_modify]
  omega

/-- At most k groups. -/
@[irreducible] def Lim (k n : Nat) : Prop := n < 10000 ^ k
theorem Lim.iff {k n : Nat} : Lim k n ↔ n < 10000 ^ k := by unfold Lim; exact Iff.rfl
theorem Lim.length {k : Nat} {xs : List Int} {n : Nat} (h : RepN 10000 xs n) (hf : Lim k n) : xs.length ≤ k :=
  h.length (by decide) (by have := Int.ofNat_lt.2 (Lim.iff.1 hf); rw [Int.natCast_pow] at this; exact this)
theorem Lim.mul {j k a c : Nat} (h : Lim j a) (hc : Lim k c) : Lim (j + k) (a * c) := by
  unfold Lim at *; rw [Nat.pow_add]; exact Nat.mul_lt_mul'' h hc
theorem Lim.mono {j k a : Nat} (h : Lim j a) (hk : j ≤ k) : Lim k a := Lim.iff.2 (Nat.lt_of_lt_of_le (Lim.iff.1 h) (Nat.pow_le_pow_right (by decide) hk))
theorem Lim.fits_gen {k a : Nat} (h : Lim k a) : (a : Int) < 10000 ^ k := by have := Int.ofNat_lt.2 (Lim.iff.1 h); rw [Int.natCast_pow] at this; exact this
theorem Lim.fits {k a : Nat} (h : Lim k a) (hk : k ≤ 1000) : Fits a := by unfold Fits; exact (h.mono hk).fits_gen
theorem Lim.le {k a c : Nat} (h : Lim k a) (hc : c ≤ a) : Lim k c := Lim.iff.2 (Nat.lt_of_le_of_lt hc (Lim.iff.1 h))
theorem Lim.add {k a c : Nat} (h : Lim k a) (hc : Lim k c) : Lim (k + 1) (a + c) := by unfold Lim at *; rw [Nat.pow_succ]; omega

theorem Ints.kept {W W' : World} {row : Option Nat} {v : Value} {xs : List Int} (h : Ints W v xs) (hg : W.grownBy W' row) (hr : ∀ r, row = some r → ∃ o : Obj, W.heap[r]? = some o ∧ o.isCells = false) : Ints W' v xs := by
  rcases h with h | ⟨b, off, cap, hv, hc, hlt, hcell⟩
  · exact .inl h
  · exact .inr ⟨b, off, cap, hv, hc, Nat.lt_of_lt_of_le hlt hg.size, fun j hj => cell_kept (hcell j hj) hg hr⟩
theorem Num.kept {W W' : World} {row : Option Nat} {v : Value} {n : Nat} (h : Num W v n) (hg : W.grownBy W' row) (hr : ∀ r, row = some r → ∃ o : Obj, W.heap[r]? = some o ∧ o.isCells = false) : Num W' v n :=
  let ⟨xs, h1, h2⟩ := h; ⟨xs, h1.kept hg hr, h2⟩

/-- A literal of one element. -/
theorem ownsRow_lit (W : World) (x : Value) : (W.alloc (.cells #[x] 3)).ownsRow W.heap.size 3 1 (.slice (some ⟨W.heap.size, 0, none⟩) 1 1) 1 [x] := by
  refine ⟨rfl, .inr ⟨W.heap.size, 1, #[x], rfl, Nat.le_refl _, World.alloc_heap_new W _, Nat.le_refl _, by unfold maxLen; omega, rfl, rfl⟩⟩

/-- The value of the groups that have come. -/
def folded (ys : List Int) (pre : List (Fin ys.length)) : Nat := pre.foldl (fun acc x => acc * 10000 + (grp ys x).toNat) 0
theorem folded_nil (ys : List Int) : folded ys [] = 0 := rfl
theorem folded_snoc (ys : List Int) (pre : List (Fin ys.length)) (x : Fin ys.length) : folded ys (pre ++ [x]) = folded ys pre * 10000 + (grp ys x).toNat := by simp [folded]
theorem folded_lt {ys : List Int} (hg : Dgs 10000 ys) (pre : List (Fin ys.length)) : Lim pre.length (folded ys pre) := by
  unfold Lim
  induction pre using snoc_induction with
  | h0 => simp [folded]
  | h1 l a ih =>
    rw [folded_snoc, List.length_append, List.length_singleton, Nat.pow_succ]
    have := (hg _ (List.getElem_mem a.isLt)).2
    have h2 : (grp ys a).toNat < 10000 := by show (ys[a.val]).toNat < 10000; omega
    omega
theorem folded_all {ys : List Int} (hg : Dgs 10000 ys) : ∀ (k : Nat) (pre : List (Fin ys.length)), k ≤ ys.length → pre.map Fin.val = dn ys.length k → (folded ys pre : Int) = val 10000 (ys.drop (ys.length - k)) := by
  intro k
  induction k with
  | zero =>
    intro pre _ h
    have : pre = [] := by simpa [dn] using h
    subst this
    simp [folded, val_nil]
  | succ k ih =>
    intro pre hk h
    have hne : pre ≠ [] := by intro e; subst e; simp [dn] at h
    obtain ⟨ini, x, rfl⟩ : ∃ m x, pre = m ++ [x] := ⟨pre.dropLast, pre.getLast hne, (List.dropLast_concat_getLast hne).symm⟩
    rw [dn_succ, List.map_append] at h
    obtain ⟨h1, h2⟩ := List.append_inj' h rfl
    have hx : x.val = ys.length - 1 - k := by simpa using h2
    rw [folded_snoc, drop_cons (by omega), val_cons, show ys.length - (k + 1) = x.val by omega, grp_eq, show x.val + 1 = ys.length - k by omega, ← ih ini (by omega) h1]
    have := (hg _ (List.getElem_mem x.isLt)).1
    have h3 : ((grp ys x).toNat : Int) = grp ys x := by show ((ys[x.val]).toNat : Int) = ys[x.val]; omega
    rw [Int.natCast_add, h3, Int.natCast_mul]
    omega

set_option maxRecDepth 100000 in
set_option maxHeartbeats 4000000 in
theorem times_in (F : Fence) (n : Nat) (hf0 : F.fn 110) (hf1 : F.fn 100) (hf2 : F.fn 122) (hf3 : F.fn 102) (hf4 : F.fn 76) (hro : F.round = none) (hn : 3 ≤ n)
    (hBy : ∀ (m : Nat) (v : Value) (a : Nat) (k : Int) (W : World), 0 ≤ k → k ≤ 9999 → Num W v a → Fits a → CallsIn F m Tryz.prog 102 #[v, .int .i64 k] W (NumPost W (a * k.toNat)))
    (hPl : ∀ (m : Nat) (v u : Value) (a b : Nat) (W : World), Num W v a → Num W u b → Fits a → Fits b → CallsIn F m Tryz.prog 76 #[v, u] W (NumPost W (a + b)))
    (v u : Value) (a b : Nat) (w : World) (ha : Num w v a) (hb : Num w u b) (fa : Lim 400 a) (fb : Lim 400 b) :
    CallsIn F n Tryz.prog 110 #[v, u] w (NumPost w (a * b)) := by
  obtain ⟨ys, iy, ry⟩ := hb
  have ly : ys.length ≤ 400 := Lim.length ry fb
  obtain ⟨au, cu, rfl⟩ := iy.shape
  obtain ⟨lv, av, cv, rfl⟩ : ∃ lv av cv, v = .slice av lv cv := by obtain ⟨xs, ix, _⟩ := ha; obtain ⟨a, c, e⟩ := ix.shape; exact ⟨_, _, _, e⟩
  have h1 : 1 ≤ n := by omega
  have h11 : 1 ≤ n - 1 - 1 := by omega
  have FA := Lib.hid fa
  clear fa fb
  refine callsIn_of_wp_marks Tryz.func110 rfl hf0 ?_ hro
  simp only [Tryz.ntmps110, List.size_toArray, List.length_cons, List.length_nil, Nat.reduceAdd, Nat.reduceSub, Array.replicate_succ, Array.replicate_zero, List.push_toArray, List.append_toArray, List.nil_append, List.cons_append]
  gi_wp2_with (gi_at_call 100; go_must (refine (back_in F (n - 1) hf1 hro _ _ _ _).mono ?_); rintro e w' ⟨rfl, rfl⟩)
  have hB0 : Below w.heap.size w (((w.alloc (.cells #[.slice av lv cv] 89)).alloc (.cells #[.slice none 0 0] 89)).alloc (.cells #[.slice au ys.length cu] 89)) := (((Below.refl _ w).alloc (Nat.le_refl _) _).alloc (by simp) _).alloc (by simp; omega) _
  have bL := Boxed.new w 89 (.slice av lv cv)
  have bO := Boxed.new (w.alloc (.cells #[.slice av lv cv] 89)) 89 (.slice none 0 0)
  have bI := Boxed.new ((w.alloc (.cells #[.slice av lv cv] 89)).alloc (.cells #[.slice none 0 0] 89)) 89 (.slice au ys.length cu)
  rw [World.size_alloc] at bO
  rw [World.size_alloc, World.size_alloc] at bI
  have bL := (bL.alloc (.cells #[.slice none 0 0] 89)).alloc (.cells #[.slice au ys.length cu] 89)
  have bO := bO.alloc (.cells #[.slice au ys.length cu] 89)
  obtain ⟨W0, hW0⟩ : ∃ W0, W0 = (((w.alloc (.cells #[.slice av lv cv] 89)).alloc (.cells #[.slice none 0 0] 89)).alloc (.cells #[.slice au ys.length cu] 89)) := ⟨_, rfl⟩
  have s0 : W0.heap.size = w.heap.size + 3 := by rw [hW0]; simp
  rw [← hW0] at hB0 bL bO bI ⊢
  clear hW0
  refine wpIn_rangeFunc_ownG hro h1 (gf := 122) (lb := #[.pointer (some ⟨w.heap.size + 1 + 1, 0, none⟩)]) rfl hf2 (enters_of Tryz.func122 (by kernel_rfl) rfl)
    (back_stops F (n - 1) hf2 hro (by omega) (w.heap.size + 1 + 1) w.heap.size _ ys (by omega) W0 (by omega) bI.cell w (Nat.le_refl _) hB0 iy) keepsBox_t (keepsBox_b (by omega) (by omega)) (Below.refl _ _) (fun _ => rfl)
    (fun pre W => (Boxed W w.heap.size 89 (.slice av lv cv) ∧ w.heap.size + 3 ≤ W.heap.size ∧ ∃ o, Boxed W (w.heap.size + 1) 89 o ∧ Num W o (a * folded ys pre) ∧ (∀ b, b < w.heap.size → Away b o)) ∧ Below w.heap.size w W)
    (fun _ _ _ => False)
    (OwnFrom.and (Own.from (fun s A B row hs hg hr => ⟨hs.1.kept hg (fun e => by obtain ⟨o, ho, hc⟩ := hr _ e.symm; rw [show A.heap[w.heap.size]? = _ from hs.1] at ho; cases ho; cases hc), Nat.le_trans hs.2.1 hg.size, by
      obtain ⟨o, h1, h2, h3⟩ := hs.2.2
      exact ⟨o, h1.kept hg (fun e => by obtain ⟨o, ho, hc⟩ := hr _ e.symm; rw [show A.heap[w.heap.size + 1]? = _ from h1] at ho; cases ho; cases hc), h2.kept hg hr, h3⟩⟩) _) (ownFrom_below (Nat.le_refl _) (by omega)))
    (fun _ _ _ _ _ hs _ _ => hs)
    ⟨⟨bL, by omega, _, bO, ⟨[], Ints.nil _, ⟨Dgs.nil _, Nrm.nil, by simp [folded_nil, val_nil]⟩⟩, fun b _ => Away.nil b⟩, hB0⟩
    (fun x => { tmps := #[.slice av lv cv, .slice au ys.length cu, .pointer (some ⟨w.heap.size, 0, none⟩), undef, .slice none 0 0, .pointer (some ⟨w.heap.size + 1, 0, none⟩), undef, .int .i64 (grp ys x), .slice au ys.length cu,
      .func (.func 122) #[] #[.pointer (some ⟨w.heap.size + 1 + 1, 0, none⟩)], .int .i64 (x.val : Int), .int .i64 (grp ys x), undef, undef, undef, undef, undef, undef, undef, undef, undef, undef, undef, undef], defers := [] }) ?assign ?body ?done ?stop
  case assign =>
    intro l x W K hK
    gi_wp2
    exact hK
  case body =>
    rintro l pre x W ⟨⟨hbl, hpl, o, hbo, hno, _⟩, hB⟩ hlt
    have mixed : Tryz.prog.follows .mixedOrders = true := by kernel_rfl
    obtain ⟨zs, iz, rz⟩ := hno
    have hx0 : 0 ≤ grp ys x := (ry.good _ (List.getElem_mem x.isLt)).1
    have hx1 : grp ys x ≤ 9999 := by have := (ry.good _ (List.getElem_mem x.isLt)).2; show ys[x.val] ≤ 9999; omega
    have hcl := hbl.cell
    have hco := hbo.cell
    have hfo := hbo.frozen
    have hby : Hid (∀ (m : Nat) (W1 : World), Below w.heap.size w W1 → CallsIn F m Tryz.prog 102 #[.slice av lv cv, .int .i64 (grp ys x)] W1 (NumPost W1 (a * (grp ys x).toNat))) :=
      fun m W1 h => hBy m _ a _ W1 hx0 hx1 (ha.below (Nat.le_refl _) h) (FA.out.fits (by omega))
    have HFN : Hid (Fits (a * (grp ys x).toNat)) := (FA.out.mul (k := 1) (by unfold Lim; omega)).fits (by omega)
    have HF0 : Hid (Fits 0) := Lim.fits (k := 0) (by unfold Lim; omega) (by omega)
    have HFA : Hid (Fits (a * folded ys pre * 10000)) := by
      have := (FA.out.mul (folded_lt ry.good pre)).mul (k := 1) (c := 9999) (by rw [Lim.iff]; omega)
      have h2 : Lim 1000 (a * folded ys pre * 10000) := by
        have h3 := (FA.out.mul (folded_lt ry.good pre))
        have h4 : Lim (400 + pre.length + 1 + 1) (a * folded ys pre * 10000) := by
          rw [Lim.iff] at h3 ⊢
          rw [Nat.pow_succ, Nat.pow_succ]
          generalize 10000 ^ (400 + pre.length) = p at h3 ⊢
          omega
        exact h4.mono (by omega)
      exact h2.fits (Nat.le_refl _)
    by_cases h0 : zs = []
    · subst h0
      have hz : a * folded ys pre = 0 := (rz.pos (by decide)).1 rfl
      obtain ⟨ao, co, e⟩ := iz.shape
      rw [List.length_nil] at e
      subst e
      have HA : Hid (∀ w1, Below W.heap.size W w1 → Num w1 (.slice ao 0 co) (a * folded ys pre * 10000)) := fun w1 h => by rw [hz]; exact ⟨[], iz.below (Nat.le_refl _) h, ⟨Dgs.nil _, Nrm.nil, rfl⟩⟩
      clear hz iz
      gi_wp2
      gi_region_with_o (first
        | (gi_at_call 102; go_must (refine (CallsIn.inRound l (hby.out _ _ (by first | exact hB | exact hB.drew))).mono ?_); rintro e w1 ⟨r, rfl, hr, _, hb⟩; obtain ⟨ra, rl, rc, rfl⟩ := hr.shape; have hbW : Below W.heap.size W w1 := ⟨hb.os, hb.tape, hb.output, hb.size, hb.block⟩; have hbo1 := boxed_below hbo hbW hbo.lt; have hco1 := hbo1.cell)
        | (gi_at_call 76; go_must (refine (CallsIn.inRound l (hPl _ _ _ _ _ _ (HA.out _ hbW) hr HFA.out HFN.out)).mono ?_); rintro e w2 ⟨r2, rfl, hr2, haw, hb2⟩; obtain ⟨ra2, rl2, rc2, rfl⟩ := hr2.shape; have hbW2 := hbW.trans (hb2.mono hbW.size); have hbo2 := boxed_below hbo hbW2 hbo.lt; have hco2 := hbo2.cell; have hfo2 := hbo2.frozen))
      all_goals
        obtain ⟨E1, E2, E3, E4, E5, E6, E7⟩ := times_end (K := W0.heap.size) hB hpl hbl hbo (by intro i e; cases e) hbW2 hr2
        exact ⟨E1, E2, ⟨E3, E6, _, E4, by rw [folded_snoc, Nat.mul_add, ← Nat.mul_assoc]; exact E5, fun b h => haw b (by have := hB.size; have := hbW.size; omega)⟩, E7⟩
    · rcases iz with ⟨_, e⟩ | ⟨b1, off, cap, rfl, hcap, hb1, hcs⟩
      · exact absurd e h0
      · have hlz : zs.length ≤ 800 := Lim.length rz ((FA.out.mul (folded_lt ry.good pre)).mono (k := 800) (by omega))
        have hl0 : 0 < zs.length := by cases zs with | nil => exact absurd rfl h0 | cons z zs => simp
        obtain ⟨i0, hi, hz0, hz1, hz2⟩ := info_parts info3
        have hcoA := (hbo.alloc (.cells #[.int .i64 0] 3)).cell
        have HCS := Lib.hid hcs
        have HBO := Lib.hid hbo
        have HBL := Lib.hid hbl
        clear hcs
        gi_wp2_with (gi_at_builtin; go_must (refine wpListIn_append_own _ rfl _ _ 89 rfl W.heap.size 3 i0 (.int .i64 0) 1 8 Tryz.underlying89 hi hz0 hz1 hz2 rfl (by decide) _ _ _ rfl (ownsRow_lit W _) ⟨b1, off, none⟩ zs.length cap (zs.map (Value.int .i64)) rfl (by simp) ?_ ?_ ?_ ?_ ?_ ?_); rotate_right; intro v' w1 hown' hgrow _; obtain ⟨g', cap', rfl⟩ := ownsRow_succ (by rw [Nat.add_comm] at hown'; exact hown'); have hg2 : Below W.heap.size W w1 := ((Below.refl _ W).alloc (Nat.le_refl _) _).grown hgrow (by simp) (fun k e => by cases e; exact Nat.le_refl _); have hbo1 := boxed_below hbo hg2 hbo.lt; have hco1 := hbo1.cell; have hfo1 := hbo1.frozen)
        · have hn1 : Num w1 (.slice (some ⟨g', 0, none⟩) (zs.length + 1) cap') (a * folded ys pre * 10000) := ⟨0 :: zs, ownsRow_ints (B := W.heap.size) (by have h := hown'; rw [show 1 + zs.length = zs.length + 1 by omega] at h; exact h), rep_shift rz h0⟩
          obtain ⟨E1, E2, E3, E4, E5, E6, E7⟩ := times_end (K := W0.heap.size) hB hpl HBL.out HBO.out (by intro i e; cases e) hg2 hn1
          obtain ⟨Ws, hWs⟩ : ∃ Ws, Ws = w1.setCell ⟨w.heap.size + 1, 0, none⟩ (.slice (some ⟨g', 0, none⟩) (zs.length + 1) cap') := ⟨_, rfl⟩
          rw [← hWs] at E1 E2 E3 E4 E5 E6 E7 ⊢
          have hclS := E3.cell
          have hcoS := E4.cell
          clear hWs hown' hgrow hg2 hn1 hcl hco hfo hcoA hbo1 hco1 hfo1
          gi_region_with_o (first
            | (gi_at_call 102; go_must (refine (CallsIn.inRound l (hby.out _ _ (by first | exact E7 | exact E7.drew))).mono ?_); rintro e w1 ⟨r, rfl, hr, _, hb⟩; obtain ⟨ra, rl, rc, rfl⟩ := hr.shape; have hbW : Below Ws.heap.size Ws w1 := ⟨hb.os, hb.tape, hb.output, hb.size, hb.block⟩; have hbo1 := boxed_below E4 hbW E4.lt; have hco1 := hbo1.cell)
            | (gi_at_call 76; go_must (refine (CallsIn.inRound l (hPl _ _ _ _ _ _ (E5.below (Nat.le_refl _) hbW) hr HFA.out HFN.out)).mono ?_); rintro e w2 ⟨r2, rfl, hr2, haw, hb2⟩; obtain ⟨ra2, rl2, rc2, rfl⟩ := hr2.shape; have hbW2 := hbW.trans (hb2.mono hbW.size); have hbo2 := boxed_below E4 hbW2 E4.lt; have hco2 := hbo2.cell; have hfo2 := hbo2.frozen))
          all_goals
            obtain ⟨G1, G2, G3, G4, G5, G6, G7⟩ := times_end (K := W0.heap.size) E7 E6 E3 E4 (by intro i e; cases e) hbW2 hr2
            exact ⟨E1.trans G1, E2.trans G2, ⟨G3, G6, _, G4, by rw [folded_snoc, Nat.mul_add, ← Nat.mul_assoc]; exact G5, fun b h => haw b (by have := E7.size; have := hbW.size; omega)⟩, G7⟩
        · intro j u hj
          rw [List.getElem?_map] at hj
          obtain ⟨z, hz, rfl⟩ := Option.map_eq_some_iff.1 hj
          have hjl : j < zs.length := (List.getElem?_eq_some_iff.1 hz).1
          have := HCS.out j hjl
          rw [hz, Option.getD_some] at this
          rw [show (⟨b1, off, none⟩ : Addr).add j = ⟨b1, off + j, none⟩ by simp [Addr.add]]
          exact (World.cell?_alloc_past _ _ _ hb1).trans this
        · intro u hu
          obtain ⟨z, _, rfl⟩ := List.mem_map.1 hu
          rfl
        · unfold maxLen; omega
        · omega
        · simp
  case done =>
    rintro D zs W hD hzs ⟨⟨hbl, _, o, hbo, hno, haw⟩, hB⟩ hK
    have hfo := folded_all ry.good ys.length zs (Nat.le_refl _) hzs
    rw [Nat.sub_self, List.drop_zero, ry.val] at hfo
    have hfo2 : folded ys zs = b := by omega
    have HN := Lib.hid hno
    have HAW := Lib.hid haw
    clear hfo hno hzs haw
    have hc := hbo.cell
    gi_wp2
    refine ⟨by simp, .inl ⟨_, _, rfl, run_takeDeferred hK, ?_⟩⟩
    have HN2 := HN.out
    rw [hfo2] at HN2
    exact ⟨_, results_tmp rfl _ _ _, o, rfl, HN2.kept (grownBy_putObj' W D (.deferred none)) (fun r e => by cases e; exact ⟨_, hK, rfl⟩), HAW.out, hB.trans (belowK_b (w := w) (Nat.le_refl _) W D _ _ (by omega) hK rfl rfl)⟩
  case stop =>
    rintro D c pre W _ _ h _
    exact h.elim

/-- 'times'. -/
theorem times_any (v u : Value) (a b : Nat) (w : World) (ha : Num w v a) (hb : Num w u b) (fa : Lim 400 a) (fb : Lim 400 b) : Calls Tryz.prog 110 #[v, u] w (NumPost w (a * b)) :=
  callsIn_wide.1 (times_in Fence.wide 3 trivial trivial trivial trivial trivial rfl (Nat.le_refl _) (fun _ v a k W h0 h1 hv hf => callsIn_wide.2 (by_any v a k h0 h1 W hv hf)) (fun _ v u a b W hv hu fa fb => callsIn_wide.2 (plus_any v u a b W hv hu fa fb)) v u a b w ha hb fa fb)

end Go.Proofs.Tryz
