/- Roots: plain facts, and the first number of Newton's steps. -/
import Derived.Test.YtdjnkaeggnkgeaaGreatDoorOps6
import Derived.Test.YtdjnkaeggnkgeaaGreatDoorNat1
namespace Go.Proofs.Dt

/-- The greatest number whose square is not greater. -/
noncomputable def rt (n : Nat) : Nat := (IsRoot.exists n).choose
theorem rt_spec (n : Nat) : IsRoot (rt n) n := (IsRoot.exists n).choose_spec
theorem rt_eq {r n : Nat} (h : IsRoot r n) : rt n = r := (rt_spec n).inj h
theorem rt_zero : rt 0 = 0 := rt_eq ⟨by omega, by omega⟩
theorem rt_le (n : Nat) : rt n ≤ n := by
  have h := (rt_spec n).1
  rcases Nat.eq_zero_or_pos (rt n) with e | e
  · omega
  · have := Nat.mul_le_mul_left (rt n) e; omega

noncomputable def rootS (s : List UInt8) : List UInt8 × Int := if valid s && decide (0 ≤ num s) then (str (rt (num s).toNat : Int), 0) else ([], 30)

theorem valid_zero : valid [48] = true := by decide

theorem val_zeros (k : Nat) : val 10000 (List.replicate k 0) = 0 := by
  induction k with
  | zero => rfl
  | succ k ih => rw [List.replicate_succ, val_cons, ih]; rfl

theorem rep_power (k : Nat) : RepN 10000 (List.replicate k 0 ++ [1]) (10000 ^ k) := by
  refine ⟨Dgs.append (fun x hx => ?_) (Dgs.one (by decide) (by decide)), Nrm.snoc (by decide), ?_⟩
  · rw [List.mem_replicate] at hx; obtain ⟨_, rfl⟩ := hx; exact ⟨by decide, by decide⟩
  · rw [val_append, val_zeros, List.length_replicate, val_cons, val_nil, Int.natCast_pow]; simp

/-- Below the power of ten from which Newton's steps fall. -/
theorem rt_start {a l : Nat} (h : a < 10000 ^ l) : rt a ≤ 10000 ^ ((l + 1) / 2) := by
  refine Nat.le_of_lt ((rt_spec a).lt (Nat.lt_of_lt_of_le h ?_))
  rw [← Nat.pow_add]
  exact Nat.pow_le_pow_right (by decide) (by omega)

end Go.Proofs.Dt
namespace Go.Proofs.Tryz
open Go.RowKit Go.Shelf Go.Proofs.Dt

theorem num_power {W : World} {B : Nat} {v : Value} {k : Nat} (h : W.ownsRow B 3 1 v (k + 1) ((madeCells (Value.int .i64 0).cells (k * 1)).toList ++ [.int .i64 1])) : Num W v (10000 ^ k) := by
  refine ⟨_, ownsRow_ints (B := B) ?_, rep_power k⟩
  have e : (madeCells (Value.int .i64 0).cells (k * 1)).toList ++ [.int .i64 1] = (List.replicate k (0 : Int) ++ [1]).map (Value.int .i64) := by
    rw [show (Value.int .i64 0).cells = #[.int .i64 0] from rfl, toList_madeCells_one, Nat.mul_one, List.map_append, List.map_replicate]; rfl
  rw [e] at h
  simpa using h

theorem num_two {W : World} {b c : Nat} (hb : b < W.heap.size) (hc : 1 ≤ c) (h : W.cell? ⟨b, 0, none⟩ = some (.int .i64 2)) : Num W (.slice (some ⟨b, 0, none⟩) 1 c) 2 := by
  refine ⟨[2], .inr ⟨b, 0, c, rfl, hc, hb, fun j hj => ?_⟩, ⟨Dgs.one (by decide) (by decide), by simp [Nrm], rfl⟩⟩
  have : j = 0 := by simpa using hj
  subst this
  exact h

theorem num_lt_len {W : World} {a : Option Addr} {l c n : Nat} (h : Num W (.slice a l c) n) : n < 10000 ^ l := by
  obtain ⟨xs, ix, rx⟩ := h
  obtain ⟨a', c', e⟩ := ix.shape
  simp only [Value.slice.injEq] at e
  rw [e.2.1]
  have h := (val_bounds (by decide) rx.good).2
  rw [rx.val] at h
  exact Int.ofNat_lt.1 (by rw [Int.natCast_pow]; exact h)

theorem num_len_le {W : World} {a : Option Addr} {l c n k : Nat} (h : Num W (.slice a l c) n) (hl : Lim k n) : l ≤ k := by
  obtain ⟨xs, ix, rx⟩ := h
  obtain ⟨a', c', e⟩ := ix.shape
  simp only [Value.slice.injEq] at e
  rw [e.2.1]
  exact Lim.length rx hl

end Go.Proofs.Tryz
