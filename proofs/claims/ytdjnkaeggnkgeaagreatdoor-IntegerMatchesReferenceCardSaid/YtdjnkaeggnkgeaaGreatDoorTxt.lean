/- Plain facts on how a string becomes groups of digits, and groups a string. -/
import Derived.Test.YtdjnkaeggnkgeaaGreatDoorDec
import Derived.Test.YtdjnkaeggnkgeaaGreatDoorGrp
namespace Go.Proofs.Dt
open Go.Lib (decDigits itoa nDigits)

/-! ### Groups of four digits (the program) -/

theorem ten_pow4 (k : Nat) : (10 : Int) ^ (4 * k) = 10000 ^ k := by
  rw [Int.pow_mul]; rfl

/-- One step of 'parse': four digits more, at the front. -/
theorem parse_step {d : List UInt8} {xs : List Int} {f g : Nat} (hg : g ≤ f) (hk : d.length - f = 4 * xs.length) (hv : val 10000 xs = (dval (d.drop f) : Int)) :
    val 10000 (xs ++ [(dval ((d.drop g).take (f - g)) : Int)]) = (dval (d.drop g) : Int) := by
  have e : d.drop g = (d.drop g).take (f - g) ++ d.drop f := by
    have := (List.take_append_drop (f - g) (d.drop g)).symm
    rwa [List.drop_drop, show g + (f - g) = f by omega] at this
  rw [val_snoc, hv]
  have h2 : (dval (d.drop g) : Int) = dval ((d.drop g).take (f - g)) * 10 ^ (d.drop f).length + dval (d.drop f) := by
    rw [e, dval_append]
    simp only [← e]
    push_cast; rfl
  rw [h2, List.length_drop, hk]
  rw [ten_pow4]
  grind

theorem dval4_lt {l : List UInt8} (h : l.all isDig = true) (hl : l.length ≤ 4) : (dval l : Int) < 10000 := by
  have h1 := dval_lt l h
  have h2 : 10 ^ l.length ≤ 10 ^ 4 := Nat.pow_le_pow_right (by decide) hl
  have : (10 : Nat) ^ 4 = 10000 := by decide
  omega

theorem all_take {p : UInt8 → Bool} {l : List UInt8} (h : l.all p = true) (k : Nat) : (l.take k).all p = true := by
  rw [List.all_eq_true] at *; intro x hx; exact h x (List.mem_of_mem_take hx)
theorem all_drop {p : UInt8 → Bool} {l : List UInt8} (h : l.all p = true) (k : Nat) : (l.drop k).all p = true := by
  rw [List.all_eq_true] at *; intro x hx; exact h x (List.mem_of_mem_drop hx)

/-- A group as four digits. -/
def pad4 (g : Nat) : List UInt8 := List.replicate (4 - (decDigits g).length) 48 ++ decDigits g

theorem dval_zeros (k : Nat) (l : List UInt8) : dval (List.replicate k 48 ++ l) = dval l := by
  rw [dval_append]
  have : dval (List.replicate k 48) = 0 := by
    induction k with
    | zero => rfl
    | succ k ih => rw [List.replicate_succ', dval_snoc, ih]; rfl
  rw [this]; omega

theorem zeros_dig (k : Nat) : (List.replicate k (48 : UInt8)).all isDig = true := by
  rw [List.all_eq_true]; intro x hx; rw [(List.mem_replicate.1 hx).2]; decide

theorem pad4_dig (g : Nat) : (pad4 g).all isDig = true := by
  unfold pad4; rw [List.all_append, zeros_dig, decDigits_dig]; rfl

theorem dval_pad4 (g : Nat) : dval (pad4 g) = g := by unfold pad4; rw [dval_zeros, dval_decDigits]

theorem pad4_length {g : Nat} (h : g < 10000) : (pad4 g).length = 4 := by
  unfold pad4
  have := (decDigits_length_le g 4 (by decide)).2 (by omega)
  rw [List.length_append, List.length_replicate]; omega

/-- One step of 'text'. -/
theorem decDigits_pad4 {n g : Nat} (hn : n ≠ 0) (hg : g < 10000) : decDigits (n * 10000 + g) = decDigits n ++ pad4 g := by
  have h := decDigits_dval (decDigits n ++ pad4 g) (by simp [decDigits_ne n]) (by rw [List.all_append, decDigits_dig, pad4_dig]; rfl) (by
    rw [List.head?_append]
    have := decDigits_head n hn
    cases hd : (decDigits n).head? with
    | none => rw [List.head?_eq_none_iff] at hd; exact absurd hd (decDigits_ne n)
    | some c => rw [hd] at this; simpa using this)
  rw [dval_append, dval_decDigits, dval_pad4, pad4_length hg] at h
  exact h

/-! ### Single digits (the reference) -/

/-- What 'text' of the reference writes: the digits, the highest one first. -/
def digs (l : List Int) : List UInt8 := l.reverse.map fun d => UInt8.ofNat (48 + d.toNat)

theorem digs_nil : digs [] = [] := rfl
theorem digs_cons (x : Int) (r : List Int) : digs (x :: r) = digs r ++ [UInt8.ofNat (48 + x.toNat)] := by simp [digs]
theorem digs_length (l : List Int) : (digs l).length = l.length := by simp [digs]

theorem digs_dig {l : List Int} (h : Dgs 10 l) : (digs l).all isDig = true := by
  induction l with
  | nil => rfl
  | cons x r ih =>
    have hx := h.head
    rw [digs_cons, List.all_append, ih h.tail]
    simp only [List.all_cons, List.all_nil, Bool.and_true, Bool.true_and]
    rw [isDig_iff, ofNat_dig (by omega)]; omega

theorem dval_digs {l : List Int} (h : Dgs 10 l) : (dval (digs l) : Int) = val 10 l := by
  induction l with
  | nil => rfl
  | cons x r ih =>
    have hx := h.head
    rw [digs_cons, dval_snoc, ofNat_dig (by omega), val_cons, ← ih h.tail]
    omega

theorem digs_head {l : List Int} (h : Dgs 10 l) (hn : Nrm l) : (digs l).head? ≠ some 48 := by
  rcases Classical.em (l = []) with e | e
  · subst e; simp [digs]
  · obtain ⟨m, x, rfl⟩ : ∃ m x, l = m ++ [x] := ⟨l.dropLast, l.getLast e, (List.dropLast_concat_getLast e).symm⟩
    have hb := h x (by simp)
    have hz : x ≠ 0 := by
      intro e0; apply hn; rw [List.getLast?_concat, e0]
    have : (digs (m ++ [x])).head? = some (UInt8.ofNat (48 + x.toNat)) := by simp [digs]
    rw [this]
    intro e2
    have e3 := congrArg UInt8.toNat (Option.some.inj e2)
    rw [ofNat_dig (by omega)] at e3
    have : (48 : UInt8).toNat = 48 := rfl
    omega

theorem digs_rep {l : List Int} {n : Nat} (h : RepN 10 l n) (h0 : n ≠ 0) : digs l = decDigits n := by
  have hne : l ≠ [] := fun e => h0 ((h.pos (by decide)).1 e)
  have hd : dval (digs l) = n := by have := dval_digs h.good; rw [h.val] at this; omega
  rw [← hd]
  exact (decDigits_dval _ (by intro e; apply hne; have := digs_length l; rw [e] at this; exact List.length_eq_zero_iff.1 this.symm) (digs_dig h.good) (digs_head h.good h.norm)).symm

/-- The digits of a string, the lowest one first. -/
def undigs (s : List UInt8) : List Int := s.reverse.map fun c => ((c.toNat - 48 : Nat) : Int)

theorem undigs_good {s : List UInt8} (h : s.all isDig = true) : Dgs 10 (undigs s) := by
  intro x hx
  unfold undigs at hx
  obtain ⟨c, hc, rfl⟩ := List.mem_map.1 hx
  have := (isDig_iff c).1 ((List.all_eq_true.1 h) c (List.mem_reverse.1 hc))
  omega

theorem undigs_snoc (s : List UInt8) (c : UInt8) : undigs (s ++ [c]) = ((c.toNat - 48 : Nat) : Int) :: undigs s := by simp [undigs]

theorem val_undigs (s : List UInt8) : val 10 (undigs s) = (dval s : Int) := by
  induction s using snoc_induction with
  | h0 => rfl
  | h1 s c ih => rw [undigs_snoc, val_cons, ih, dval_snoc]; omega

theorem undigs_norm {s : List UInt8} (hd : s.all isDig = true) (h : s.head? ≠ some 48) : Nrm (undigs s) := by
  cases s with
  | nil => exact Nrm.nil
  | cons c r =>
    have hc := (isDig_iff c).1 ((List.all_eq_true.1 hd) c (List.mem_cons_self ..))
    have e : undigs (c :: r) = undigs r ++ [((c.toNat - 48 : Nat) : Int)] := by simp [undigs]
    rw [e]
    apply Nrm.snoc
    intro e0
    apply h
    have : c = 48 := by apply UInt8.toNat_inj.1; have : (48 : UInt8).toNat = 48 := rfl; omega
    rw [this]; rfl

end Go.Proofs.Dt
