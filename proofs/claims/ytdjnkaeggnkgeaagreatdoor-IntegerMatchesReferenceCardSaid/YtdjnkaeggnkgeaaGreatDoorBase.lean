/- What a slice of integers holds in memory, and the small functions on numbers: at, one, cmp.Compare. -/
import Derived.Test.YtdjnkaeggnkgeaaGreatDoorProg
import Derived.Test.YtdjnkaeggnkgeaaGreatDoorGrp
import Derived.WalkKit
import Derived.Deep.QuietTactic
import Derived.BigQuiet
import Derived.Deep.Draws
import Derived.Outline
import Derived.Lib.Hide
import Derived.WalkSpells
import Derived.WalkLawsBesides
namespace Go.Proofs.Tryz
open Go.RowKit Go.Proofs.Dt

/-- The slice value v holds the integers xs. -/
def Ints (W : World) (v : Value) (xs : List Int) : Prop :=
  (v = .slice none 0 0 ∧ xs = []) ∨ ∃ b off cap, v = .slice (some ⟨b, off, none⟩) xs.length cap ∧ xs.length ≤ cap ∧ b < W.heap.size ∧ ∀ j, j < xs.length → W.cell? ⟨b, off + j, none⟩ = some (.int .i64 (xs[j]?.getD 0))

/-- The slice value does not lie in block b. -/
def Away (b : Nat) (v : Value) : Prop := ∀ a l c, v = .slice (some a) l c → a.block ≠ b
theorem Away.nil (b : Nat) : Away b (.slice none 0 0) := fun a l c h => by cases h

theorem Ints.nil (W : World) : Ints W (.slice none 0 0) [] := .inl ⟨rfl, rfl⟩

theorem Ints.below {W W' : World} {v : Value} {xs : List Int} (h : Ints W v xs) {n : Nat} (hn : W.heap.size ≤ n) (hb : Below n W W') : Ints W' v xs := by
  rcases h with h | ⟨b, off, cap, hv, hc, hlt, hcell⟩
  · exact .inl h
  · exact .inr ⟨b, off, cap, hv, hc, Nat.lt_of_lt_of_le hlt hb.size, fun j hj => (hb.cell (p := ⟨b, off + j, none⟩) (Nat.lt_of_lt_of_le hlt hn)).trans (hcell j hj)⟩

theorem Ints.shape {W : World} {v : Value} {xs : List Int} (h : Ints W v xs) : ∃ a cap, v = .slice a xs.length cap := by
  rcases h with ⟨rfl, rfl⟩ | ⟨b, off, cap, hv, _⟩
  · exact ⟨_, _, rfl⟩
  · exact ⟨_, _, hv⟩

theorem Ints.inj {W : World} {v : Value} {xs ys : List Int} (h : Ints W v xs) (k : Ints W v ys) : xs = ys := by
  obtain ⟨a, c, e1⟩ := h.shape
  obtain ⟨a', c', e2⟩ := k.shape
  rw [e1] at e2
  simp only [Value.slice.injEq] at e2
  obtain ⟨_, hl, _⟩ := e2
  rcases h with ⟨_, rfl⟩ | ⟨b, off, cap, hv, _, _, hc⟩
  · exact (List.length_eq_zero_iff.1 hl.symm).symm
  · rcases k with ⟨_, rfl⟩ | ⟨b', off', cap', hv', _, _, hc'⟩
    · exact List.length_eq_zero_iff.1 hl
    · rw [hv] at hv'
      simp only [Value.slice.injEq, Option.some.injEq, Addr.mk.injEq] at hv'
      obtain ⟨⟨rfl, rfl, _⟩, _, _⟩ := hv'
      apply List.ext_getElem hl
      intro i h1 h2
      have := (hc i h1).symm.trans (hc' i h2)
      simpa [h1, h2] using this

theorem ret_int {k : IntKind} {a b : Int} (h : a = b) : Ending.returned (.int k a) = .returned (.int k b) := by rw [h]

set_option maxHeartbeats 400000 in
/-- 'l.at(i)' at a slice that is not nil. -/
theorem at_some (b off cap : Nat) (xs : List Int) (i : Int) (w : World) (hi : 0 ≤ i) (hc : ∀ j, j < xs.length → w.cell? ⟨b, off + j, none⟩ = some (.int .i64 (xs[j]?.getD 0))) :
    Calls Tryz.prog 70 #[.slice (some ⟨b, off, none⟩) xs.length cap, .int .i64 i] w fun e w' => e = .returned (.int .i64 (xs[i.toNat]?.getD 0)) ∧ w = w' := by
  obtain ⟨n, rfl⟩ := Int.eq_ofNat_of_zero_le hi
  rw [Int.toNat_natCast]
  by_cases h : n < xs.length
  · have hcell := hc n h
    clear hc
    go_enter Tryz.func70, Tryz.ntmps70
    go_wp2
    go_ret
    exact ⟨ret_int (by rw [List.getElem?_eq_getElem h]; rfl), rfl⟩
  · have e : xs[n]?.getD 0 = 0 := by rw [List.getElem?_eq_none (by omega)]; rfl
    have E := Lib.hid e
    clear e hc
    go_enter Tryz.func70, Tryz.ntmps70
    go_wp2
    go_ret
    exact ⟨ret_int E.out.symm, rfl⟩

/-- 'l.at(i)' at the nil slice. -/
theorem at_nil (i : Int) (w : World) (hi : 0 ≤ i) : Calls Tryz.prog 70 #[.slice none 0 0, .int .i64 i] w fun e w' => e = .returned (.int .i64 0) ∧ w = w' := by
  go_enter Tryz.func70, Tryz.ntmps70
  go_wp2
  go_ret
  exact ⟨rfl, rfl⟩

theorem at_any {v : Value} {xs : List Int} (i : Int) (w : World) (hi : 0 ≤ i) (h : Ints w v xs) :
    Calls Tryz.prog 70 #[v, .int .i64 i] w fun e w' => e = .returned (.int .i64 (xs[i.toNat]?.getD 0)) ∧ w = w' := by
  rcases h with ⟨rfl, rfl⟩ | ⟨b, off, cap, rfl, _, _, hc⟩
  · exact (at_nil i w hi).mono fun e w' h => by simpa using h
  · exact at_some b off cap xs i w hi hc

/-- cmp.Compare of two integers. -/
def cmpI (x y : Int) : Int := if x < y then -1 else if y < x then 1 else 0

set_option maxHeartbeats 400000 in
theorem cmp_any (x y : Int) (w : World) : Calls Tryz.prog 72 #[.int .i64 x, .int .i64 y] w fun e w' => e = .returned (.int .i64 (cmpI x y)) ∧ w = w' := by
  rcases Int.lt_trichotomy x y with h | h | h
  · have e : cmpI x y = -1 := by unfold cmpI; rw [if_pos h]
    have E := Lib.hid e
    clear e
    go_enter Tryz.func72, Tryz.ntmps72
    go_wp2
    go_ret
    exact ⟨ret_int E.out.symm, rfl⟩
  · subst h
    have e : cmpI x x = 0 := by unfold cmpI; rw [if_neg (by omega), if_neg (by omega)]
    have E := Lib.hid e
    clear e
    go_enter Tryz.func72, Tryz.ntmps72
    go_wp2
    go_ret
    exact ⟨ret_int E.out.symm, rfl⟩
  · have e : cmpI x y = 1 := by unfold cmpI; rw [if_neg (by omega), if_pos h]
    have E := Lib.hid e
    have h2 : ¬ x < y := by omega
    clear e
    go_enter Tryz.func72, Tryz.ntmps72
    go_wp2
    go_ret
    exact ⟨ret_int E.out.symm, rfl⟩

end Go.Proofs.Tryz
