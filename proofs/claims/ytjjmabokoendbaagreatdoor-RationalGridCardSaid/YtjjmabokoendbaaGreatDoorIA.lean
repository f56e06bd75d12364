/- What a slice of integers holds in memory, and the small functions on numbers: at, one, cmp.Compare.
'trimmed': zeros at the end of a number are left out. */
The closures of plus, minus and by: each returns a digit of the result before the carry.
'fold': groups are combined one after the other, with a carry. -/
import Derived.Test.YtjjmabokoendbaaGreatDoorProg
import Derived.Test.YtjjmabokoendbaaGreatDoorPA
import Derived.WalkKit
import Derived.Deep.QuietTactic
import Derived.BigQuiet
import Derived.Deep.Draws
import Derived.Outline
import Derived.Lib.Hide
import Derived.WalkSpells
import Derived.WalkLawsBesides
import Derived.Deep.OwnRows
import Derived.Laws.OwnMore
import Derived.OwnWalk
import Derived.WalkSmall
import Derived.Maps.AppendAt
namespace Go.Proofs.Tryz
open Go.RowKit Go.Proofs.Dt

/-- The slice value v holds the integers xs. -/
def Ints (W : World) (v : Value) (xs : List Int) : Prop :=
  (v = .slice none 0 0 ∧ xs = []) ∨ ∃ b off cap, v = .slice (some ⟨b, off, none⟩) xs.length cap ∧ xs.length ≤ cap ∧ b < W.heap.size ∧ ∀ j, j < xs.length → W.cell? ⟨b, off + j, none⟩ = some (.int .i64 (xs[j]?.getD 0))

/-- The slice value does not lie in block b. -/
def Away (b : Nat) (v : Value) : Prop := ∀ a l c, v = .slice (some a) l c → a.block ≠ b
theorem Away.nil (b : Nat) : Away b (.slice none 0 0) := fun a l c h => by cases h

theorem Ints.nil (W : World) : Ints W (.slice none 0 0) [] := .inl ⟨rfl, rfl⟩

theorem Ints.below {W W' : World} {v : Value} {xs : List Int} (h : Ints W v xs) {n : Nat} (hn : W.heap.size ≤ n) (hb : Below n W W') : Ints W' v xs := by
  rcases h with h | ⟨b, off, cap, hv, hc, hlt, hcell⟩
  · exact .inl h
  · exact .inr ⟨b, off, cap, hv, hc, Nat.lt_of_lt_of_le hlt hb.size, fun j hj => (hb.cell (p := ⟨b, off + j, none⟩) (Nat.lt_of_lt_of_le hlt hn)).trans (hcell j hj)⟩

theorem Ints.shape {W : World} {v : Value} {xs : List Int} (h : Ints W v xs) : ∃ a cap, v = .slice a xs.length cap := by
  rcases h with ⟨rfl, rfl⟩ | ⟨b, off, cap, hv, _⟩
  · exact ⟨_, _, rfl⟩
  · exact ⟨_, _, hv⟩

theorem Ints.inj {W : World} {v : Value} {xs ys : List Int} (h : Ints W v xs) (k : Ints W v ys) : xs = ys := by
  obtain ⟨a, c, e1⟩ := h.shape
  obtain ⟨a', c', e2⟩ := k.shape
  rw [e1] at e2
  simp only [Value.slice.injEq] at e2
  obtain ⟨_, hl, _⟩ := e2
  rcases h with ⟨_, rfl⟩ | ⟨b, off, cap, hv, _, _, hc⟩
  · exact (List.length_eq_zero_iff.1 hl.symm).symm
  · rcases k with ⟨_, rfl⟩ | ⟨b', off', cap', hv', _, _, hc'⟩
    · exact List.length_eq_zero_iff.1 hl
    · rw [hv] at hv'
      simp only [Value.slice.injEq, Option.some.injEq, Addr.mk.injEq] at hv'
      obtain ⟨⟨rfl, rfl, _⟩, _, _⟩ := hv'
      apply List.ext_getElem hl
      intro i h1 h2
      have := (hc i h1).symm.trans (hc' i h2)
      simpa [h1, h2] using this

theorem ret_int {k : IntKind} {a b : Int} (h : a = b) : Ending.returned (.int k a) = .returned (.int k b) := by rw [h]

set_option maxHeartbeats 400000 in
/-- 'l.at(i)' at a slice that is not nil. -/
theorem at_some (b off cap : Nat) (xs : List Int) (i : Int) (w : World) (hi : 0 ≤ i) (hc : ∀ j, j < xs.length → w.cell? ⟨b, off + j, none⟩ = some (.int .i64 (xs[j]?.getD 0))) :
    Calls Tryz.prog 107 #[.slice (some ⟨b, off, none⟩) xs.length cap, .int .i64 i] w fun e w' => e = .returned (.int .i64 (xs[i.toNat]?.getD 0)) ∧ w = w' := by
  obtain ⟨n, rfl⟩ := Int.eq_ofNat_of_zero_le hi
  rw [Int.toNat_natCast]
  by_cases h : n < xs.length
  · have hcell := hc n h
    clear hc
    go_enter Tryz.func107, Tryz.ntmps107
    go_wp2
    go_ret
    exact ⟨ret_int (by rw [List.getElem?_eq_getElem h]; rfl), rfl⟩
  · have e : xs[n]?.getD 0 = 0 := by rw [List.getElem?_eq_none (by omega)]; rfl
    have E := Lib.hid e
    clear e hc
    go_enter Tryz.func107, Tryz.ntmps107
    go_wp2
    go_ret
    exact ⟨ret_int E.out.symm, rfl⟩

/-- 'l.at(i)' at the nil slice. -/
theorem at_nil (i : Int) (w : World) (hi : 0 ≤ i) : Calls Tryz.prog 107 #[.slice none 0 0, .int .i64 i] w fun e w' => e = .returned (.int .i64 0) ∧ w = w' := by
  go_enter Tryz.func107, Tryz.ntmps107
  go_wp2
  go_ret
  exact ⟨rfl, rfl⟩

theorem at_any {v : Value} {xs : List Int} (i : Int) (w : World) (hi : 0 ≤ i) (h : Ints w v xs) :
    Calls Tryz.prog 107 #[v, .int .i64 i] w fun e w' => e = .returned (.int .i64 (xs[i.toNat]?.getD 0)) ∧ w = w' := by
  rcases h with ⟨rfl, rfl⟩ | ⟨b, off, cap, rfl, _, _, hc⟩
  · exact (at_nil i w hi).mono fun e w' h => by simpa using h
  · exact at_some b off cap xs i w hi hc

/-- cmp.Compare of two integers. -/
def cmpI (x y : Int) : Int := if x < y then -1 else if y < x then 1 else 0

set_option maxHeartbeats 400000 in
theorem cmp_any (x y : Int) (w : World) : Calls Tryz.prog 109 #[.int .i64 x, .int .i64 y] w fun e w' => e = .returned (.int .i64 (cmpI x y)) ∧ w = w' := by
  rcases Int.lt_trichotomy x y with h | h | h
  · have e : cmpI x y = -1 := by unfold cmpI; rw [if_pos h]
    have E := Lib.hid e
    clear e
    go_enter Tryz.func109, Tryz.ntmps109
    go_wp2
    go_ret
    exact ⟨ret_int E.out.symm, rfl⟩
  · subst h
    have e : cmpI x x = 0 := by unfold cmpI; rw [if_neg (by omega), if_neg (by omega)]
    have E := Lib.hid e
    clear e
    go_enter Tryz.func109, Tryz.ntmps109
    go_wp2
    go_ret
    exact ⟨ret_int E.out.symm, rfl⟩
  · have e : cmpI x y = 1 := by unfold cmpI; rw [if_neg (by omega), if_pos h]
    have E := Lib.hid e
    have h2 : ¬ x < y := by omega
    clear e
    go_enter Tryz.func109, Tryz.ntmps109
    go_wp2
    go_ret
    exact ⟨ret_int E.out.symm, rfl⟩

end Go.Proofs.Tryz

namespace Go.Proofs.Tryz
open Go.RowKit Go.Proofs.Dt

def lenOf : Value → Nat | .slice _ n _ => n | _ => 0

/-- How much of a list stays: k places; behind them are zeros; the last one is none. -/
def Cut (xs : List Int) (k : Nat) : Prop := k ≤ xs.length ∧ (∀ j, k ≤ j → j < xs.length → xs[j]?.getD 0 = 0) ∧ (k = 0 ∨ xs[k - 1]?.getD 0 ≠ 0)

/-- What 'trimmed' returns. -/
def TrimPost (v0 : Value) (w : World) (xs : List Int) (e : Ending) (w' : World) : Prop := ∃ v k, e = .returned v ∧ Cut xs k ∧ Ints w v (xs.take k) ∧ (∀ b, Away b v0 → Away b v) ∧ w = w'

theorem away_same (a : Addr) (l c l' c' : Nat) : ∀ b, Away b (.slice (some a) l c) → Away b (.slice (some a) l' c') := fun b h a' l2 c2 e => by
  simp only [Value.slice.injEq, Option.some.injEq] at e
  obtain ⟨rfl, _, _⟩ := e
  exact h _ l c rfl

theorem away_at (B o l c b : Nat) (h : b < B) : Away b (.slice (some ⟨B, o, none⟩) l c) := fun a' l2 c2 e => by
  simp only [Value.slice.injEq, Option.some.injEq] at e
  obtain ⟨rfl, _, _⟩ := e
  show B ≠ b
  omega

theorem ints_take {w : World} {b off cap : Nat} {xs : List Int} {k : Nat} (hk : k ≤ xs.length) (hcap : xs.length ≤ cap) (hb : b < w.heap.size) (hc : ∀ j, j < xs.length → w.cell? ⟨b, off + j, none⟩ = some (.int .i64 (xs[j]?.getD 0))) :
    Ints w (.slice (some ⟨b, off, none⟩) k cap) (xs.take k) := by
  have hl : (xs.take k).length = k := by rw [List.length_take]; omega
  refine .inr ⟨b, off, cap, by rw [hl], by omega, hb, fun j hj => ?_⟩
  rw [hl] at hj
  rw [hc j (by omega), List.getElem?_take, if_pos hj]

set_option maxHeartbeats 800000 in
theorem trimmed_some (b off cap : Nat) (xs : List Int) (w : World) (hl : xs.length ≤ 9223372036854775807) (hcap : xs.length ≤ cap) (hb : b < w.heap.size) (hc : ∀ j, j < xs.length → w.cell? ⟨b, off + j, none⟩ = some (.int .i64 (xs[j]?.getD 0))) :
    Calls Tryz.prog 101 #[.slice (some ⟨b, off, none⟩) xs.length cap] w (TrimPost (.slice (some ⟨b, off, none⟩) xs.length cap) w xs) := by
  go_enter Tryz.func101, Tryz.ntmps101
  go_wp2
  go_loop [0] (fun s => ∃ k, k ≤ xs.length ∧ s = .slice (some ⟨b, off, none⟩) k cap ∧ Hid (∀ j, k ≤ j → j < xs.length → xs[j]?.getD 0 = 0)) (fun s => lenOf s)
  case atStart => exact ⟨xs.length, Nat.le_refl _, rfl, fun j h1 h2 => by omega⟩
  case round =>
    obtain ⟨k, hk, rfl, hz⟩ := hrel
    by_cases h0 : 0 < k
    · have hcell := hc (k - 1) (by omega)
      by_cases hx : xs[k - 1]?.getD 0 = 0
      · rw [hx] at hcell
        have HX := Lib.hid hx
        have HC := Lib.hid hc
        clear hx hc
        have e1 : ((k : Int) - 1).toNat = k - 1 := by omega
        go_wp2
        go_round
        case rel =>
          refine ⟨k - 1, by omega, ?_, fun j h1 h2 => ?_⟩
          · rfl
          · by_cases e : j = k - 1
            · rw [e]; exact HX.out
            · exact hz.out j (by omega) h2
        case measure => simp [lenOf]; omega
      · have hx2 : (xs[k - 1]?.getD 0 == 0) = false := by simpa using hx
        have HX := Lib.hid hx
        have HC := Lib.hid hc
        clear hx hc
        have e1 : ((k : Int) - 1).toNat = k - 1 := by omega
        go_wp2
        go_ret
        exact ⟨_, k, rfl, ⟨hk, hz.out, .inr HX.out⟩, ints_take hk hcap hb HC.out, away_same _ _ _ _ _, rfl⟩
    · obtain rfl : k = 0 := by omega
      have HC := Lib.hid hc
      clear hc
      go_wp2
      go_ret
      exact ⟨_, 0, rfl, ⟨hk, hz.out, .inl rfl⟩, ints_take hk hcap hb HC.out, away_same _ _ _ _ _, rfl⟩

theorem trimmed_nil (w : World) : Calls Tryz.prog 101 #[.slice none 0 0] w (TrimPost (.slice none 0 0) w []) := by
  go_enter Tryz.func101, Tryz.ntmps101
  go_wp2
  refine wp_loop_rounds 1 ?_
  rw [rounds_succ]
  go_wp2
  go_ret
  exact ⟨_, 0, rfl, ⟨Nat.le_refl _, fun j h1 h2 => by simp at h2, .inl rfl⟩, Ints.nil w, fun _ h => h, rfl⟩

theorem trimmed_any {v : Value} {xs : List Int} (w : World) (hl : xs.length ≤ 9223372036854775807) (h : Ints w v xs) : Calls Tryz.prog 101 #[v] w (TrimPost v w xs) := by
  rcases h with ⟨rfl, rfl⟩ | ⟨b, off, cap, rfl, hcap, hb, hc⟩
  · exact trimmed_nil w
  · exact trimmed_some b off cap xs w hl hcap hb hc

end Go.Proofs.Tryz

namespace Go.Proofs.Tryz
open Go.RowKit Go.Proofs.Dt

theorem good_small {xs : List Int} (h : Dgs 10000 xs) (n : Nat) : 0 ≤ xs[n]?.getD 0 ∧ xs[n]?.getD 0 < 10000 := h.get (by decide) n

theorem at_quiet {v : Value} {xs : List Int} (n q : Nat) (W : World) (h : Ints W v xs) :
    Calls Tryz.prog 107 #[v, .int .i64 (n : Int)] (W.drewN q) fun e w' => e = .returned (.int .i64 (xs[n]?.getD 0)) ∧ ∃ m, w' = W.drewN m :=
  (at_any (n : Int) (W.drewN q) (by omega) (h.below (Nat.le_refl _) ⟨rfl, rfl, rfl, Nat.le_refl _, fun _ _ => rfl⟩)).mono fun _ _ ⟨he, hw⟩ => ⟨he, q, hw.symm⟩

set_option maxHeartbeats 800000 in
theorem plus1_any (b1 b2 : Nat) (v1 v2 : Value) (xs ys : List Int) (n : Nat) (W : World) (h1 : Ints W v1 xs) (h2 : Ints W v2 ys) (g1 : Dgs 10000 xs) (g2 : Dgs 10000 ys)
    (c1 : W.cell? ⟨b1, 0, none⟩ = some v1) (c2 : W.cell? ⟨b2, 0, none⟩ = some v2) :
    Calls Tryz.prog 106 #[.int .i64 (n : Int), .pointer (some ⟨b1, 0, none⟩), .pointer (some ⟨b2, 0, none⟩)] W fun e w' => e = .returned (.int .i64 (xs[n]?.getD 0 + ys[n]?.getD 0)) ∧ ∃ q, w' = W.drewN q := by
  have s1 := good_small g1 n
  have s2 := good_small g2 n
  clear g1 g2
  generalize hx : xs[n]?.getD 0 = x at s1 ⊢
  generalize hy : ys[n]?.getD 0 = y at s2 ⊢
  have a1 : Hid (∀ q : Nat, Calls Tryz.prog 107 #[v1, .int .i64 (n : Int)] (W.drewN q) fun e w' => e = .returned (.int .i64 x) ∧ ∃ m, w' = W.drewN m) := fun q => by rw [← hx]; exact at_quiet n q W h1
  have a2 : Hid (∀ q : Nat, Calls Tryz.prog 107 #[v2, .int .i64 (n : Int)] (W.drewN q) fun e w' => e = .returned (.int .i64 y) ∧ ∃ m, w' = W.drewN m) := fun q => by rw [← hy]; exact at_quiet n q W h2
  clear hx hy h1 h2
  go_enter Tryz.func106, Tryz.ntmps106
  go_wp2
  go_quiet ((go_at_call 107; first | (with_reducible exact a1.out _) | (with_reducible exact a2.out _)))
  go_wp2
  go_ret
  exact ⟨rfl, _, rfl⟩

set_option maxHeartbeats 800000 in
theorem minus1_any (b1 b2 : Nat) (v1 v2 : Value) (xs ys : List Int) (n : Nat) (W : World) (h1 : Ints W v1 xs) (h2 : Ints W v2 ys) (g1 : Dgs 10000 xs) (g2 : Dgs 10000 ys)
    (c1 : W.cell? ⟨b1, 0, none⟩ = some v1) (c2 : W.cell? ⟨b2, 0, none⟩ = some v2) :
    Calls Tryz.prog 108 #[.int .i64 (n : Int), .pointer (some ⟨b1, 0, none⟩), .pointer (some ⟨b2, 0, none⟩)] W fun e w' => e = .returned (.int .i64 (xs[n]?.getD 0 - ys[n]?.getD 0)) ∧ ∃ q, w' = W.drewN q := by
  have s1 := good_small g1 n
  have s2 := good_small g2 n
  clear g1 g2
  generalize hx : xs[n]?.getD 0 = x at s1 ⊢
  generalize hy : ys[n]?.getD 0 = y at s2 ⊢
  have a1 : Hid (∀ q : Nat, Calls Tryz.prog 107 #[v1, .int .i64 (n : Int)] (W.drewN q) fun e w' => e = .returned (.int .i64 x) ∧ ∃ m, w' = W.drewN m) := fun q => by rw [← hx]; exact at_quiet n q W h1
  have a2 : Hid (∀ q : Nat, Calls Tryz.prog 107 #[v2, .int .i64 (n : Int)] (W.drewN q) fun e w' => e = .returned (.int .i64 y) ∧ ∃ m, w' = W.drewN m) := fun q => by rw [← hy]; exact at_quiet n q W h2
  clear hx hy h1 h2
  go_enter Tryz.func108, Tryz.ntmps108
  go_wp2
  go_quiet ((go_at_call 107; first | (with_reducible exact a1.out _) | (with_reducible exact a2.out _)))
  go_wp2
  go_ret
  exact ⟨rfl, _, rfl⟩

theorem mul_small {x k : Int} (h0 : 0 ≤ x) (h1 : x < 10000) (k0 : 0 ≤ k) (k1 : k ≤ 9999) : 0 ≤ x * k ∧ x * k ≤ 99980001 := by
  refine ⟨Int.mul_nonneg h0 k0, ?_⟩
  have := Int.mul_le_mul (show x ≤ 9999 by omega) k1 k0 (by omega)
  omega

set_option maxHeartbeats 800000 in
theorem by1_any (b1 b2 : Nat) (v1 : Value) (xs : List Int) (k : Int) (k0 : 0 ≤ k) (k1 : k ≤ 9999) (n : Nat) (W : World) (h1 : Ints W v1 xs) (g1 : Dgs 10000 xs)
    (c1 : W.cell? ⟨b1, 0, none⟩ = some v1) (c2 : W.cell? ⟨b2, 0, none⟩ = some (.int .i64 k)) :
    Calls Tryz.prog 123 #[.int .i64 (n : Int), .pointer (some ⟨b1, 0, none⟩), .pointer (some ⟨b2, 0, none⟩)] W fun e w' => e = .returned (.int .i64 (xs[n]?.getD 0 * k)) ∧ ∃ q, w' = W.drewN q := by
  have s1 := good_small g1 n
  clear g1
  generalize hx : xs[n]?.getD 0 = x at s1 ⊢
  have a1 : Hid (∀ q : Nat, Calls Tryz.prog 107 #[v1, .int .i64 (n : Int)] (W.drewN q) fun e w' => e = .returned (.int .i64 x) ∧ ∃ m, w' = W.drewN m) := fun q => by rw [← hx]; exact at_quiet n q W h1
  have hw : wrap64 (x * k) = x * k := by have := mul_small s1.1 s1.2 k0 k1; unfold wrap64; omega
  have HW := Lib.hid hw
  clear hx h1 hw
  go_enter Tryz.func123, Tryz.ntmps123
  go_wp2
  go_quiet ((go_at_call 107; (with_reducible exact a1.out _)))
  go_wp2
  go_ret
  exact ⟨ret_int HW.out, _, rfl⟩

end Go.Proofs.Tryz

namespace Go.Proofs.Tryz
open Go.RowKit Go.Proofs.Dt

theorem info3 : (Tryz.prog.info? 3).map (fun i => (i.zero, i.size, i.bytes)) = some (some (.int .i64 0), 1, 8) := by kernel_rfl

/-- A function value that returns the digit F i, and only reads. -/
def DigitAt (g : Nat) (lb : Array Value) (F : Nat → Int) (w : World) : Prop :=
  ∀ (i : Nat) (W : World), Below w.heap.size w W → Calls Tryz.prog g (#[.int .i64 (i : Int)] ++ lb) W fun e w' => e = .returned (.int .i64 (F i)) ∧ ∃ q, w' = W.drewN q

theorem ownsRow_ints {W : World} {B : Nat} {v : Value} {xs : List Int} (h : W.ownsRow B 3 1 v xs.length (xs.map (Value.int .i64))) : Ints W v xs := by
  have h0 := h
  obtain ⟨_, ⟨rfl, hn⟩ | ⟨g, cap, cur, rfl, hb, hg, hc, _, _, _⟩⟩ := h
  · exact .inl ⟨rfl, List.length_eq_zero_iff.1 hn⟩
  · refine .inr ⟨g, 0, cap, rfl, hc, (Array.getElem?_eq_some_iff.1 hg).1, fun j hj => ?_⟩
    rw [Nat.zero_add, h0.cellAt j (by omega), List.getElem?_map, List.getElem?_eq_getElem hj]; rfl

/-- What holds at the head of round k: c is the carry, xs what has been gathered. -/
structure FoldInv (F : Nat → Int) (n : Nat) (w : World) (k : Nat) (c : Int) (xs : List Int) (v : Value) (W : World) : Prop where
  own : W.ownsRow w.heap.size 3 1 v xs.length (xs.map (Value.int .i64))
  len : xs.length = k
  dgs : Dgs 10000 xs
  val : val 10000 xs + 10000 ^ k * c = sumTo 10000 F k
  pos : n ≤ k → 0 ≤ c
  one : n + 1 ≤ k → c ≤ 1
  zero : n + 2 ≤ k → c = 0

theorem sumTo_past {B : Int} {F : Nat → Int} {n : Nat} (hz : ∀ i, n ≤ i → F i = 0) : ∀ k, n ≤ k → sumTo B F k = sumTo B F n := by
  intro k hk
  induction k with
  | zero => obtain rfl : n = 0 := by omega
            rfl
  | succ k ih =>
    by_cases e : n = k + 1
    · rw [e]
    · simp only [sumTo]; rw [ih (by omega), hz k (by omega)]; simp

theorem FoldInv.drewN {F : Nat → Int} {n : Nat} {w wr : World} {k : Nat} {c : Int} {xs : List Int} {v : Value} (h : FoldInv F n w k c xs v wr) (q : Nat) : FoldInv F n w k c xs v (wr.drewN q) :=
  ⟨h.own, h.len, h.dgs, h.val, h.pos, h.one, h.zero⟩

theorem FoldInv.next {F : Nat → Int} {n : Nat} {w wr w1 : World} {k : Nat} {c : Int} {xs : List Int} {v v' : Value} (h : FoldInv F n w k c xs v wr) (hF : ∀ i, -10000 < F i ∧ F i ≤ 99980001) (hz : ∀ i, n ≤ i → F i = 0) (hp : 0 ≤ sumTo 10000 F n)
    (c0 : -1 ≤ c) (c1 : c ≤ 10001) {x y : Int} (hx : x = low 10000 (F k + c)) (hy : y = high 10000 (F k + c)) (hown : w1.ownsRow w.heap.size 3 1 v' (xs.length + 1) (xs.map (Value.int .i64) ++ [.int .i64 x])) :
    FoldInv F n w (k + 1) y (xs ++ [x]) v' w1 ∧ -1 ≤ y ∧ y ≤ 10001 := by
  have hk := hF k
  subst hx hy
  have hb : -10000 ≤ F k + c := by omega
  have hlo := low_bounds (B := 10000) (by decide) hb
  have hst := fold_step (B := 10000) (F := F) h.len h.val
  have hdg : Dgs 10000 (xs ++ [low 10000 (F k + c)]) := h.dgs.append (Dgs.one hlo.1 hlo.2)
  have hbd := val_bounds (B := 10000) (by decide) hdg
  have hln : (xs ++ [low 10000 (F k + c)]).length = k + 1 := by rw [List.length_append, h.len]; rfl
  rw [hln] at hbd
  have hhi : -1 ≤ high 10000 (F k + c) ∧ high 10000 (F k + c) ≤ 10001 := by unfold high; split <;> (try split) <;> omega
  refine ⟨⟨?_, hln, hdg, hst, fun hn => ?_, fun hn => ?_, fun hn => ?_⟩, hhi.1, hhi.2⟩
  · rw [List.length_append, List.map_append]; exact hown
  · have e := sumTo_past (B := 10000) hz (k + 1) hn
    rw [e] at hst
    have hpw := pow_pos (B := 10000) (by decide) (k + 1)
    by_cases h1 : high 10000 (F k + c) < 0
    · have : high 10000 (F k + c) = -1 := by omega
      rw [this] at hst
      omega
    · omega
  · have := h.pos (by omega)
    rw [hz k (by omega)]
    unfold high; split <;> (try split) <;> omega
  · have := h.pos (by omega)
    have := h.one (by omega)
    rw [hz k (by omega)]
    unfold high; split <;> (try split) <;> omega

theorem away_own {W : World} {B n : Nat} {v : Value} {ys : List Value} (h : W.ownsRow B 3 1 v n ys) : ∀ b, b < B → Away b v := by
  intro b hb a l c e
  have := h.lt a.block (by rw [e]; rfl)
  omega

set_option maxRecDepth 100000 in
set_option maxHeartbeats 2000000 in
theorem fold_any (g : Nat) (lb : Array Value) (F : Nat → Int) (n : Nat) (w : World) (eg : ∀ args w, (callFunc g args).run Tryz.prog w = .ok (.enter g args) w) (hn : n ≤ 100000)
    (hF : ∀ i, -10000 < F i ∧ F i ≤ 99980001) (hz : ∀ i, n ≤ i → F i = 0) (hp : 0 ≤ sumTo 10000 F n) (hf : DigitAt g lb F w) :
    Calls Tryz.prog 105 #[.int .i64 (n : Int), .int .i64 0, .func (.func g) #[] lb] w fun e w' => ∃ v xs, e = .returned v ∧ Ints w' v xs ∧ Dgs 10000 xs ∧ val 10000 xs = sumTo 10000 F n ∧ xs.length ≤ n + 2 ∧ (∀ b, b < w.heap.size → Away b v) ∧ Below w.heap.size w w' := by
  have HF := Lib.hid hF
  have HZ := Lib.hid hz
  have HP := Lib.hid hp
  have HD := Lib.hid hf
  clear hF hz hp hf
  obtain ⟨i0, hi, hz0, hz1, hz2⟩ := info_parts info3
  go_enter Tryz.func105, Tryz.ntmps105
  go_wp2_with (at_make; refine wpList_make_own _ rfl _ _ 89 rfl w.heap.size 3 i0 (.int .i64 0) 1 Tryz.underlying89 hi hz0 hz1 .i64 .i64 _ (n + 1) rfl rfl (by omega) (by rw [hz2]; omega) (by unfold maxLen; omega) (Nat.le_refl _) ?_; intro w0 hown0 hgrow0)
  have hb0 : Below w.heap.size w w0 := (Below.refl _ w).grown hgrow0 (Nat.le_refl _) (fun k e => by cases e)
  have hst : FoldInv F n w 0 0 [] (.slice (some ⟨w.heap.size, 0, none⟩) 0 (n + 1)) w0 := ⟨by simpa using hown0, rfl, Dgs.nil _, by simp [val_nil, sumTo], by omega, by omega, by omega⟩
  have HS := Lib.hid hst
  clear hst hown0 hgrow0
  go_loopw [1, 7, 8, 9] (fun c v i _ wr => ∃ (k : Nat) (cc : Int) (xs : List Int), i = .int .i64 k ∧ c = .int .i64 cc ∧ -1 ≤ cc ∧ cc ≤ 10001 ∧ k ≤ n + 2 ∧ Hid (FoldInv F n w k cc xs v wr) ∧ Below w.heap.size w wr) (fun _ _ i _ _ => n + 3 - (intOf i).toNat)
  case atStart => exact ⟨0, 0, [], rfl, rfl, by omega, by omega, by omega, HS, hb0⟩
  case round =>
    obtain ⟨k, cc, xs, rfl, rfl, c0, c1, hk, HI, hbr⟩ := hrel
    by_cases hgo : k < n ∨ cc ≠ 0
    · have hk1 : k + 1 ≤ n + 2 := by
        rcases Nat.lt_or_ge (k + 1) (n + 3) with h | h
        · omega
        · have := HI.out.zero (by omega); omega
      have hFk := HF.out k
      obtain ⟨fk, hfk⟩ : ∃ fk, fk = F k := ⟨_, rfl⟩
      have hd : Hid (Calls Tryz.prog g (#[.int .i64 (k : Int)] ++ lb) wr fun e w' => e = .returned (.int .i64 fk) ∧ FoldInv F n w k cc xs u7 w' ∧ Below w.heap.size w w') :=
        (HD.out k wr hbr).mono fun e w' ⟨he, q, hq⟩ => ⟨by rw [he, hfk], by rw [hq]; exact HI.out.drewN q, by rw [hq]; exact below_drewN hbr q⟩
      rw [← hfk] at hFk
      have HFK := Lib.hid hfk
      have hkn : k ≤ 100002 := by omega
      clear hfk
      have hb1 := hbr.size
      clear HD HI
      rcases (show k < n ∨ (n ≤ k ∧ cc ≠ 0) by omega) with hkn1 | ⟨hkn1, hc0⟩
      · clear hgo
        rcases (show fk + cc < 0 ∨ (0 ≤ fk + cc ∧ 10000 ≤ fk + cc) ∨ (0 ≤ fk + cc ∧ fk + cc < 10000) by omega) with h1 | ⟨h0, h1⟩ | ⟨h0, h1⟩
        · go_wp2_with fail
          refine hd.out.mono ?_
          rintro e w' ⟨rfl, hinv, hb'⟩
          have hown := Lib.hid hinv.own
          have hlen := Lib.hid hinv.len
          have hb2 := hb'.size
          have HINV := Lib.hid hinv
          clear hd hinv
          go_wp2_with (at_builtin; go_must (refine wpList_append_own _ rfl _ _ 89 rfl w.heap.size 3 i0 (.int .i64 0) 1 8 Tryz.underlying89 hi hz0 hz1 hz2 rfl (by decide) _ _ _ rfl (hown.out.alloc _) ⟨w'.heap.size, 0, none⟩ 1 1 [.int .i64 (fk + cc + 10000)] rfl rfl ?_ ?_ ?_ ?_ ?_ ?_); rotate_right; intro v' w1 hown' hgrow _)
          · obtain ⟨N1, N2, N3⟩ := HINV.out.next HF.out HZ.out HP.out c0 c1 (x := fk + cc + 10000) (y := -1) (by rw [← HFK.out]; unfold low; rw [if_pos h1]) (by rw [← HFK.out]; unfold high; rw [if_pos h1]) hown'
            go_roundw
            case rel => exact ⟨k + 1, _, _, by go_num, rfl, N2, N3, hk1, N1, (hb'.alloc (by omega) _).grown hgrow (by simp; omega) (fun j hj => (hown.out.lt j hj).1)⟩
            case measure => simp [intOf]; omega
          · exact cell_one_new _ _ _
          · simp [Value.oneCell']
          · unfold maxLen; rw [hlen.out]; omega
          · rw [hlen.out]; omega
          · simp; omega
        · go_wp2_with fail
          refine hd.out.mono ?_
          rintro e w' ⟨rfl, hinv, hb'⟩
          have hown := Lib.hid hinv.own
          have hlen := Lib.hid hinv.len
          have hb2 := hb'.size
          have HINV := Lib.hid hinv
          clear hd hinv
          go_wp2_with (at_builtin; go_must (refine wpList_append_own _ rfl _ _ 89 rfl w.heap.size 3 i0 (.int .i64 0) 1 8 Tryz.underlying89 hi hz0 hz1 hz2 rfl (by decide) _ _ _ rfl (hown.out.alloc _) ⟨w'.heap.size, 0, none⟩ 1 1 [.int .i64 ((fk + cc) % 10000)] rfl rfl ?_ ?_ ?_ ?_ ?_ ?_); rotate_right; intro v' w1 hown' hgrow _)
          · obtain ⟨N1, N2, N3⟩ := HINV.out.next HF.out HZ.out HP.out c0 c1 (x := (fk + cc) % 10000) (y := (fk + cc) / 10000) (by rw [← HFK.out]; unfold low; rw [if_neg (by omega), if_pos (by omega)]) (by rw [← HFK.out]; unfold high; rw [if_neg (by omega), if_pos (by omega)]) hown'
            go_roundw
            case rel => exact ⟨k + 1, _, _, by go_num, rfl, N2, N3, hk1, N1, (hb'.alloc (by omega) _).grown hgrow (by simp; omega) (fun j hj => (hown.out.lt j hj).1)⟩
            case measure => simp [intOf]; omega
          · exact cell_one_new _ _ _
          · simp [Value.oneCell']
          · unfold maxLen; rw [hlen.out]; omega
          · rw [hlen.out]; omega
          · simp; omega
        · go_wp2_with fail
          refine hd.out.mono ?_
          rintro e w' ⟨rfl, hinv, hb'⟩
          have hown := Lib.hid hinv.own
          have hlen := Lib.hid hinv.len
          have hb2 := hb'.size
          have HINV := Lib.hid hinv
          clear hd hinv
          go_wp2_with (at_builtin; go_must (refine wpList_append_own _ rfl _ _ 89 rfl w.heap.size 3 i0 (.int .i64 0) 1 8 Tryz.underlying89 hi hz0 hz1 hz2 rfl (by decide) _ _ _ rfl (hown.out.alloc _) ⟨w'.heap.size, 0, none⟩ 1 1 [.int .i64 (fk + cc)] rfl rfl ?_ ?_ ?_ ?_ ?_ ?_); rotate_right; intro v' w1 hown' hgrow _)
          · obtain ⟨N1, N2, N3⟩ := HINV.out.next HF.out HZ.out HP.out c0 c1 (x := fk + cc) (y := 0) (by rw [← HFK.out]; unfold low; rw [if_neg (by omega), if_neg (by omega)]) (by rw [← HFK.out]; unfold high; rw [if_neg (by omega), if_neg (by omega)]) hown'
            go_roundw
            case rel => exact ⟨k + 1, _, _, by go_num, rfl, N2, N3, hk1, N1, (hb'.alloc (by omega) _).grown hgrow (by simp; omega) (fun j hj => (hown.out.lt j hj).1)⟩
            case measure => simp [intOf]; omega
          · exact cell_one_new _ _ _
          · simp [Value.oneCell']
          · unfold maxLen; rw [hlen.out]; omega
          · rw [hlen.out]; omega
          · simp; omega
      · clear hgo
        have hc0b : (cc != 0) = true := by simpa using hc0
        clear hc0
        rcases (show fk + cc < 0 ∨ (0 ≤ fk + cc ∧ 10000 ≤ fk + cc) ∨ (0 ≤ fk + cc ∧ fk + cc < 10000) by omega) with h1 | ⟨h0, h1⟩ | ⟨h0, h1⟩
        · go_wp2_with fail
          refine hd.out.mono ?_
          rintro e w' ⟨rfl, hinv, hb'⟩
          have hown := Lib.hid hinv.own
          have hlen := Lib.hid hinv.len
          have hb2 := hb'.size
          have HINV := Lib.hid hinv
          clear hd hinv
          go_wp2_with (at_builtin; go_must (refine wpList_append_own _ rfl _ _ 89 rfl w.heap.size 3 i0 (.int .i64 0) 1 8 Tryz.underlying89 hi hz0 hz1 hz2 rfl (by decide) _ _ _ rfl (hown.out.alloc _) ⟨w'.heap.size, 0, none⟩ 1 1 [.int .i64 (fk + cc + 10000)] rfl rfl ?_ ?_ ?_ ?_ ?_ ?_); rotate_right; intro v' w1 hown' hgrow _)
          · obtain ⟨N1, N2, N3⟩ := HINV.out.next HF.out HZ.out HP.out c0 c1 (x := fk + cc + 10000) (y := -1) (by rw [← HFK.out]; unfold low; rw [if_pos h1]) (by rw [← HFK.out]; unfold high; rw [if_pos h1]) hown'
            go_roundw
            case rel => exact ⟨k + 1, _, _, by go_num, rfl, N2, N3, hk1, N1, (hb'.alloc (by omega) _).grown hgrow (by simp; omega) (fun j hj => (hown.out.lt j hj).1)⟩
            case measure => simp [intOf]; omega
          · exact cell_one_new _ _ _
          · simp [Value.oneCell']
          · unfold maxLen; rw [hlen.out]; omega
          · rw [hlen.out]; omega
          · simp; omega
        · go_wp2_with fail
          refine hd.out.mono ?_
          rintro e w' ⟨rfl, hinv, hb'⟩
          have hown := Lib.hid hinv.own
          have hlen := Lib.hid hinv.len
          have hb2 := hb'.size
          have HINV := Lib.hid hinv
          clear hd hinv
          go_wp2_with (at_builtin; go_must (refine wpList_append_own _ rfl _ _ 89 rfl w.heap.size 3 i0 (.int .i64 0) 1 8 Tryz.underlying89 hi hz0 hz1 hz2 rfl (by decide) _ _ _ rfl (hown.out.alloc _) ⟨w'.heap.size, 0, none⟩ 1 1 [.int .i64 ((fk + cc) % 10000)] rfl rfl ?_ ?_ ?_ ?_ ?_ ?_); rotate_right; intro v' w1 hown' hgrow _)
          · obtain ⟨N1, N2, N3⟩ := HINV.out.next HF.out HZ.out HP.out c0 c1 (x := (fk + cc) % 10000) (y := (fk + cc) / 10000) (by rw [← HFK.out]; unfold low; rw [if_neg (by omega), if_pos (by omega)]) (by rw [← HFK.out]; unfold high; rw [if_neg (by omega), if_pos (by omega)]) hown'
            go_roundw
            case rel => exact ⟨k + 1, _, _, by go_num, rfl, N2, N3, hk1, N1, (hb'.alloc (by omega) _).grown hgrow (by simp; omega) (fun j hj => (hown.out.lt j hj).1)⟩
            case measure => simp [intOf]; omega
          · exact cell_one_new _ _ _
          · simp [Value.oneCell']
          · unfold maxLen; rw [hlen.out]; omega
          · rw [hlen.out]; omega
          · simp; omega
        · go_wp2_with fail
          refine hd.out.mono ?_
          rintro e w' ⟨rfl, hinv, hb'⟩
          have hown := Lib.hid hinv.own
          have hlen := Lib.hid hinv.len
          have hb2 := hb'.size
          have HINV := Lib.hid hinv
          clear hd hinv
          go_wp2_with (at_builtin; go_must (refine wpList_append_own _ rfl _ _ 89 rfl w.heap.size 3 i0 (.int .i64 0) 1 8 Tryz.underlying89 hi hz0 hz1 hz2 rfl (by decide) _ _ _ rfl (hown.out.alloc _) ⟨w'.heap.size, 0, none⟩ 1 1 [.int .i64 (fk + cc)] rfl rfl ?_ ?_ ?_ ?_ ?_ ?_); rotate_right; intro v' w1 hown' hgrow _)
          · obtain ⟨N1, N2, N3⟩ := HINV.out.next HF.out HZ.out HP.out c0 c1 (x := fk + cc) (y := 0) (by rw [← HFK.out]; unfold low; rw [if_neg (by omega), if_neg (by omega)]) (by rw [← HFK.out]; unfold high; rw [if_neg (by omega), if_neg (by omega)]) hown'
            go_roundw
            case rel => exact ⟨k + 1, _, _, by go_num, rfl, N2, N3, hk1, N1, (hb'.alloc (by omega) _).grown hgrow (by simp; omega) (fun j hj => (hown.out.lt j hj).1)⟩
            case measure => simp [intOf]; omega
          · exact cell_one_new _ _ _
          · simp [Value.oneCell']
          · unfold maxLen; rw [hlen.out]; omega
          · rw [hlen.out]; omega
          · simp; omega
    · obtain rfl : cc = 0 := by omega
      have hk2 : n ≤ k := by omega
      go_wp2
      go_ret
      refine ⟨_, xs, rfl, ownsRow_ints HI.out.own, HI.out.dgs, ?_, by rw [HI.out.len]; exact hk, away_own HI.out.own, hbr⟩
      have := HI.out.val
      rw [sumTo_past HZ.out k hk2] at this
      rw [← this]; simp

end Go.Proofs.Tryz
