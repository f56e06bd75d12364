/- The closures of plus, minus and by: each returns a digit of the result before the carry. -/
import Derived.Test.YtdjnkaeggnkgeaaGreatDoorTrim
namespace Go.Proofs.Tryz
open Go.RowKit Go.Proofs.Dt

theorem good_small {xs : List Int} (h : Dgs 10000 xs) (n : Nat) : 0 ≤ xs[n]?.getD 0 ∧ xs[n]?.getD 0 < 10000 := h.get (by decide) n

theorem at_quiet {v : Value} {xs : List Int} (n q : Nat) (W : World) (h : Ints W v xs) :
    Calls Tryz.prog 70 #[v, .int .i64 (n : Int)] (W.drewN q) fun e w' => e = .returned (.int .i64 (xs[n]?.getD 0)) ∧ ∃ m, w' = W.drewN m :=
  (at_any (n : Int) (W.drewN q) (by omega) (h.below (Nat.le_refl _) ⟨rfl, rfl, rfl, Nat.le_refl _, fun _ _ => rfl⟩)).mono fun _ _ ⟨he, hw⟩ => ⟨he, q, hw.symm⟩

set_option maxHeartbeats 800000 in
theorem plus1_any (b1 b2 : Nat) (v1 v2 : Value) (xs ys : List Int) (n : Nat) (W : World) (h1 : Ints W v1 xs) (h2 : Ints W v2 ys) (g1 : Dgs 10000 xs) (g2 : Dgs 10000 ys)
    (c1 : W.cell? ⟨b1, 0, none⟩ = some v1) (c2 : W.cell? ⟨b2, 0, none⟩ = some v2) :
    Calls Tryz.prog 69 #[.int .i64 (n : Int), .pointer (some ⟨b1, 0, none⟩), .pointer (some ⟨b2, 0, none⟩)] W fun e w' => e = .returned (.int .i64 (xs[n]?.getD 0 + ys[n]?.getD 0)) ∧ ∃ q, w' = W.drewN q := by
  have s1 := good_small g1 n
  have s2 := good_small g2 n
  clear g1 g2
  generalize hx : xs[n]?.getD 0 = x at s1 ⊢
  generalize hy : ys[n]?.getD 0 = y at s2 ⊢
  have a1 : Hid (∀ q : Nat, Calls Tryz.prog 70 #[v1, .int .i64 (n : Int)] (W.drewN q) fun e w' => e = .returned (.int .i64 x) ∧ ∃ m, w' = W.drewN m) := fun q => by rw [← hx]; exact at_quiet n q W h1
  have a2 : Hid (∀ q : Nat, Calls Tryz.prog 70 #[v2, .int .i64 (n : Int)] (W.drewN q) fun e w' => e = .returned (.int .i64 y) ∧ ∃ m, w' = W.drewN m) := fun q => by rw [← hy]; exact at_quiet n q W h2
  clear hx hy h1 h2
  go_enter Tryz.func69, Tryz.ntmps69
  go_wp2
  go_quiet ((go_at_call 70; first | (with_reducible exact a1.out _) | (with_reducible exact a2.out _)))
  go_wp2
  go_ret
  exact ⟨rfl, _, rfl⟩

set_option maxHeartbeats 800000 in
theorem minus1_any (b1 b2 : Nat) (v1 v2 : Value) (xs ys : List Int) (n : Nat) (W : World) (h1 : Ints W v1 xs) (h2 : Ints W v2 ys) (g1 : Dgs 10000 xs) (g2 : Dgs 10000 ys)
    (c1 : W.cell? ⟨b1, 0, none⟩ = some v1) (c2 : W.cell? ⟨b2, 0, none⟩ = some v2) :
    Calls Tryz.prog 71 #[.int .i64 (n : Int), .pointer (some ⟨b1, 0, none⟩), .pointer (some ⟨b2, 0, none⟩)] W fun e w' => e = .returned (.int .i64 (xs[n]?.getD 0 - ys[n]?.getD 0)) ∧ ∃ q, w' = W.drewN q := by
  have s1 := good_small g1 n
  have s2 := good_small g2 n
  clear g1 g2
  generalize hx : xs[n]?.getD 0 = x at s1 ⊢
  generalize hy : ys[n]?.getD 0 = y at s2 ⊢
  have a1 : Hid (∀ q : Nat, Calls Tryz.prog 70 #[v1, .int .i64 (n : Int)] (W.drewN q) fun e w' => e = .returned (.int .i64 x) ∧ ∃ m, w' = W.drewN m) := fun q => by rw [← hx]; exact at_quiet n q W h1
  have a2 : Hid (∀ q : Nat, Calls Tryz.prog 70 #[v2, .int .i64 (n : Int)] (W.drewN q) fun e w' => e = .returned (.int .i64 y) ∧ ∃ m, w' = W.drewN m) := fun q => by rw [← hy]; exact at_quiet n q W h2
  clear hx hy h1 h2
  go_enter Tryz.func71, Tryz.ntmps71
  go_wp2
  go_quiet ((go_at_call 70; first | (with_reducible exact a1.out _) | (with_reducible exact a2.out _)))
  go_wp2
  go_ret
  exact ⟨rfl, _, rfl⟩

theorem mul_small {x k : Int} (h0 : 0 ≤ x) (h1 : x < 10000) (k0 : 0 ≤ k) (k1 : k ≤ 9999) : 0 ≤ x * k ∧ x * k ≤ 99980001 := by
  refine ⟨Int.mul_nonneg h0 k0, ?_⟩
  have := Int.mul_le_mul (show x ≤ 9999 by omega) k1 k0 (by omega)
  omega

set_option maxHeartbeats 800000 in
theorem by1_any (b1 b2 : Nat) (v1 : Value) (xs : List Int) (k : Int) (k0 : 0 ≤ k) (k1 : k ≤ 9999) (n : Nat) (W : World) (h1 : Ints W v1 xs) (g1 : Dgs 10000 xs)
    (c1 : W.cell? ⟨b1, 0, none⟩ = some v1) (c2 : W.cell? ⟨b2, 0, none⟩ = some (.int .i64 k)) :
    Calls Tryz.prog 84 #[.int .i64 (n : Int), .pointer (some ⟨b1, 0, none⟩), .pointer (some ⟨b2, 0, none⟩)] W fun e w' => e = .returned (.int .i64 (xs[n]?.getD 0 * k)) ∧ ∃ q, w' = W.drewN q := by
  have s1 := good_small g1 n
  clear g1
  generalize hx : xs[n]?.getD 0 = x at s1 ⊢
  have a1 : Hid (∀ q : Nat, Calls Tryz.prog 70 #[v1, .int .i64 (n : Int)] (W.drewN q) fun e w' => e = .returned (.int .i64 x) ∧ ∃ m, w' = W.drewN m) := fun q => by rw [← hx]; exact at_quiet n q W h1
  have hw : wrap64 (x * k) = x * k := by have := mul_small s1.1 s1.2 k0 k1; unfold wrap64; omega
  have HW := Lib.hid hw
  clear hx h1 hw
  go_enter Tryz.func84, Tryz.ntmps84
  go_wp2
  go_quiet ((go_at_call 70; (with_reducible exact a1.out _)))
  go_wp2
  go_ret
  exact ⟨ret_int HW.out, _, rfl⟩

end Go.Proofs.Tryz
