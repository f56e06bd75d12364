/- 'slices.Backward' at numbers: the iterator hands out the groups, the last one first. -/
import Derived.Test.YtdjnkaeggnkgeaaGreatDoorNum
import Derived.RangeFuncBox
import Derived.RangeFuncCalls
import Derived.RangeFuncNested
import Derived.RangeFuncLeaves
import Derived.OwnWalkIn
import Derived.TacticsInMore
import Derived.LoopNIn
import Derived.LoopIn
import Derived.Maps.AppendAt
namespace Go.Proofs.Tryz
open Go.RowKit Go.Proofs.Dt Go.Shelf

attribute [local go_sem] Oper.semAt_some

/-- The indices that have come when k rounds are over: the last one first. -/
def dn (L k : Nat) : List Nat := (List.range k).map fun j => L - 1 - j
theorem dn_succ (L k : Nat) : dn L (k + 1) = dn L k ++ [L - 1 - k] := by simp [dn, List.range_succ]
theorem dn_length (L k : Nat) : (dn L k).length = k := by simp [dn]

/-- The group at an index. -/
def grp (xs : List Int) (x : Fin xs.length) : Int := xs[x.val]
theorem grp_eq (xs : List Int) (x : Fin xs.length) : xs[x.val]?.getD 0 = grp xs x := by unfold grp; simp

/-- What a round keeps: whatever lies below n₀, and the iterator's own box. -/
structure KeepsBox (n₀ Bs : Nat) (W W' : World) : Prop where
  below : Below n₀ W W'
  box : W'.cell? ⟨Bs, 0, none⟩ = W.cell? ⟨Bs, 0, none⟩
theorem KeepsBox.refl (n₀ Bs : Nat) (W : World) : KeepsBox n₀ Bs W W := ⟨Below.refl _ _, rfl⟩
theorem KeepsBox.trans {n₀ Bs : Nat} {A B C : World} (h : KeepsBox n₀ Bs A B) (k : KeepsBox n₀ Bs B C) : KeepsBox n₀ Bs A C := ⟨h.below.trans k.below, k.box.trans h.box⟩
theorem KeepsBox.of_below {n₀ Bs k : Nat} {W W' : World} (h : Below k W W') (h1 : n₀ ≤ k) (h2 : Bs < k) : KeepsBox n₀ Bs W W' := ⟨h.mono h1, h.cell h2⟩
theorem KeepsBox.setCell {n₀ Bs : Nat} (W : World) (b : Nat) (v : Value) (h1 : n₀ ≤ b) (h2 : b ≠ Bs) : KeepsBox n₀ Bs W (W.setCell ⟨b, 0, none⟩ v) :=
  ⟨(Below.refl _ _).setCell (p := ⟨b, 0, none⟩) h1 v, World.cell?_of_block (w := W) (Below.heap_setCell _ _ _ _ (by simpa using fun e => h2 e.symm))⟩
theorem KeepsBox.alloc {n₀ Bs : Nat} {W : World} (o : Obj) (h1 : n₀ ≤ W.heap.size) (h2 : Bs < W.heap.size) : KeepsBox n₀ Bs W (W.alloc o) := KeepsBox.of_below ((Below.refl _ W).alloc (Nat.le_refl _) o) h1 h2
theorem keepsBox_t {n₀ Bs : Nat} {A B C : World} (h : KeepsBox n₀ Bs A B) (k : KeepsBox n₀ Bs B C) : KeepsBox n₀ Bs A C := h.trans k
theorem keepsBox_b {n₀ Bs : Nat} {w : World} (hn : n₀ ≤ w.heap.size) (hb : Bs < w.heap.size) (W : World) (l : Nat) (o o' : Obj) (h : w.heap.size ≤ l) (h1 : W.heap[l]? = some o) (h2 : o.isCells = false) (h3 : o.isWalk = false) : KeepsBox n₀ Bs W (W.putObj l o') :=
  ⟨belowK_b (w := w) hn W l o o' h h1 h2 h3, World.cell?_of_block (w := W) (World.putObj_heap_other (by show Bs ≠ l; omega))⟩

set_option maxRecDepth 100000 in
set_option maxHeartbeats 2000000 in
theorem back1_in (F : Fence) (n : Nat) (hfn : F.fn 78) (hro : F.round = none) (hn : 1 ≤ n) (l Bs n₀ b off cap : Nat) (xs : List Int) (hreach : xs.length ≤ 100000) (hb : b < n₀) (J Jx : List (Fin xs.length) → World → Prop)
    (hY : ∀ pre x W, J pre W → pre.length < xs.length → YieldAt F (n - 1) Tryz.prog l #[.int .i64 (x.val : Int), .int .i64 (grp xs x)] W fun e W' =>
      (e = .returned (.bool true) ∧ J (pre ++ [x]) W' ∧ KeepsBox n₀ Bs W W') ∨ (e = .returned (.bool false) ∧ Jx (pre ++ [x]) W'))
    (W : World) (hBc : W.cell? ⟨Bs, 0, none⟩ = some (.slice (some ⟨b, off, none⟩) xs.length cap)) (hc : ∀ j, j < xs.length → W.cell? ⟨b, off + j, none⟩ = some (.int .i64 (xs[j]?.getD 0))) (h0 : J [] W) :
    CallsIn F n Tryz.prog 78 #[.func (.yield l) #[] #[], .pointer (some ⟨Bs, 0, none⟩)] W fun e W' => (∃ v, e = .returned v) ∧
      ((∃ ys, ys.map Fin.val = dn xs.length xs.length ∧ J ys W') ∨ (∃ pre, (∃ k, k ≤ xs.length ∧ pre.map Fin.val = dn xs.length k) ∧ Jx pre W')) := by
  refine callsIn_of_wp Tryz.func78 rfl hfn ?_ hro
  simp only [Tryz.ntmps78, List.size_toArray, List.length_cons, List.length_nil, Nat.reduceAdd, Nat.reduceSub, Array.replicate_succ, Array.replicate_zero, List.push_toArray, List.append_toArray, List.nil_append, List.cons_append]
  gi_wp2
  gi_loopw [3] (fun i wr => ∃ k : Nat, k ≤ xs.length ∧ i = .int .i64 ((xs.length : Int) - 1 - k) ∧ (∃ pre : List (Fin xs.length), pre.map Fin.val = dn xs.length k ∧ J pre wr) ∧ KeepsBox n₀ Bs W wr)
    (fun i _ => (intOf i + 1).toNat)
  case atStart => exact ⟨0, Nat.zero_le _, by simp, ⟨[], rfl, h0⟩, KeepsBox.refl _ _ _⟩
  case round =>
    obtain ⟨k, hk, rfl, ⟨pre, hpre, hJs⟩, hnx⟩ := hrel
    have hpl : pre.length = k := by rw [← List.length_map (f := Fin.val), hpre, dn_length]
    have HPRE := Lib.hid hpre
    have HPL := Lib.hid hpl
    clear hpre hpl
    have hBr := hnx.box.trans hBc
    by_cases hlt : k < xs.length
    · have hcx : wr.cell? ⟨b, off + (xs.length - 1 - k), none⟩ = some (.int .i64 (xs[xs.length - 1 - k]?.getD 0)) := (hnx.below.cell (p := ⟨b, off + (xs.length - 1 - k), none⟩) hb).trans (hc _ (by omega))
      obtain ⟨fn, tmps, assign, body, hy, hR⟩ := hY _ ⟨xs.length - 1 - k, by omega⟩ wr hJs (by rw [HPL.out]; exact hlt)
      dsimp only at hy
      rw [← grp_eq] at hy
      rw [show ((xs.length - 1 - k : Nat) : Int) = (xs.length : Int) - 1 - k by omega] at hy
      have e1 : ((xs.length : Int) - 1 - k).toNat = xs.length - 1 - k := by omega
      gi_wp2
      refine hR.mono ?_
      rintro e W3 (⟨rfl, hJ3, hk3⟩ | ⟨rfl, hJx3⟩)
      · gi_wp2
        go_roundw
        case rel => exact ⟨k + 1, by omega, by go_num, ⟨_, by rw [dn_succ, List.map_append, HPRE.out]; rfl, hJ3⟩, hnx.trans hk3⟩
        case measure => simp [intOf]; omega
      · gi_wp2
        refine bodyPost_ret (results_none rfl _ _ _) rfl ?_
        exact ⟨⟨_, rfl⟩, .inr ⟨_, ⟨k + 1, by omega, by rw [dn_succ, List.map_append, HPRE.out]; rfl⟩, hJx3⟩⟩
    · have hk2 : k = xs.length := by omega
      have HK2 := Lib.hid hk2
      clear hk2
      gi_wp2
      go_end0
      exact ⟨⟨_, rfl⟩, .inl ⟨_, by rw [HPRE.out, HK2.out], hJs⟩⟩

set_option maxRecDepth 100000 in
set_option maxHeartbeats 1000000 in
/-- .. at the nil slice: no round. -/
theorem back1_nil_in (F : Fence) (n : Nat) (hfn : F.fn 78) (hro : F.round = none) {α : Type} (l Bs : Nat) (J : List α → World → Prop) (W : World) (hBs : W.cell? ⟨Bs, 0, none⟩ = some (.slice none 0 0)) (h0 : J [] W) :
    CallsIn F n Tryz.prog 78 #[.func (.yield l) #[] #[], .pointer (some ⟨Bs, 0, none⟩)] W fun e W' => (∃ v, e = .returned v) ∧ J [] W' := by
  refine callsIn_of_wp Tryz.func78 rfl hfn ?_ hro
  simp only [Tryz.ntmps78, List.size_toArray, List.length_cons, List.length_nil, Nat.reduceAdd, Nat.reduceSub, Array.replicate_succ, Array.replicate_zero, List.push_toArray, List.append_toArray, List.nil_append, List.cons_append]
  gi_wp2
  gi_loopw [3] (fun i wr => i = .int .i64 (-1) ∧ J [] wr) (fun _ _ => 0)
  case atStart => exact ⟨rfl, h0⟩
  case round =>
    obtain ⟨rfl, hJs⟩ := hrel
    gi_wp2
    go_end0
    exact ⟨⟨_, rfl⟩, hJs⟩

set_option maxHeartbeats 1000000 in
/-- 'slices.Backward(l)': the slice is boxed; the function value captures the box. -/
theorem back_in (F : Fence) (n : Nat) (hfn : F.fn 60) (hro : F.round = none) (a : Option Addr) (len cap : Nat) (w : World) :
    CallsIn F n Tryz.prog 60 #[.slice a len cap] w fun e w' => e = .returned (.func (.func 78) #[] #[.pointer (some ⟨w.heap.size, 0, none⟩)]) ∧ w' = w.alloc (.cells #[.slice a len cap] 48) := by
  refine callsIn_of_wp Tryz.func60 rfl hfn ?_ hro
  simp only [Tryz.ntmps60, List.size_toArray, List.length_cons, List.length_nil, Nat.reduceAdd, Nat.reduceSub, Array.replicate_succ, Array.replicate_zero, List.push_toArray, List.append_toArray, List.nil_append, List.cons_append]
  gi_wp2
  go_ret
  exact ⟨rfl, rfl⟩

/-- The iterator's contract. -/
theorem back_stops (F : Fence) (n : Nat) (hfn : F.fn 78) (hro : F.round = none) (hn : 1 ≤ n) (Bs n₀ : Nat) (sv : Value) (xs : List Int) (hreach : xs.length ≤ 100000) (w : World) (hBs : Bs < w.heap.size)
    (hc : w.cell? ⟨Bs, 0, none⟩ = some sv) (w1 : World) (h1 : w1.heap.size ≤ n₀) (h2 : Below w1.heap.size w1 w) (hI : Ints w1 sv xs) :
    SeqStopsK F n Tryz.prog 78 #[.pointer (some ⟨Bs, 0, none⟩)] (fun x : Fin xs.length => #[Value.int .i64 (x.val : Int), Value.int .i64 (grp xs x)]) (KeepsBox n₀ Bs) (fun ys => ys.map Fin.val = dn xs.length xs.length)
      (fun pre => ∃ k, k ≤ xs.length ∧ pre.map Fin.val = dn xs.length k) xs.length w := fun l J Jx W hW _ _ hY h0 => by
  have hc' := (hW.cell (p := ⟨Bs, 0, none⟩) hBs).trans hc
  have hI' := hI.below (Nat.le_refl _) (h2.trans (hW.mono h2.size))
  have hI2 := hI
  rcases hI with ⟨rfl, rfl⟩ | ⟨b, off, cap, rfl, _, hb, hcs⟩
  · exact (back1_nil_in F n hfn hro l Bs J W hc' h0).mono fun e W' ⟨he, hj⟩ => ⟨he, .inl ⟨_, rfl, hj⟩⟩
  · exact back1_in F n hfn hro hn l Bs n₀ b off cap xs hreach (by omega) J Jx hY W hc' (fun j hj => ((h2.trans (hW.mono h2.size)).cell (p := ⟨b, off + j, none⟩) hb).trans (hcs j hj)) h0

end Go.Proofs.Tryz
