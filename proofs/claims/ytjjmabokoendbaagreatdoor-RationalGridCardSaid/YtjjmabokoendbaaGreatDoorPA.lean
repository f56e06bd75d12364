/- Plain facts on decimal numerals: which lists of bytes are valid integers of the chapter, and which number each of them is.
Plain facts on numbers that are kept as lists of groups, the lowest one first, in a base B.
Plain facts on how a string becomes groups of digits, and groups a string.
Plain facts on numbers: roots, common divisors, quotients, bounds.
What the functions of the chapter return, as functions on strings of bytes: plain, without a program.
The reference's lists of digits as integers: plain, without a program. -/
import Derived.Lib.ItoaNum
namespace Go.Proofs.Dt
open Go.Lib (decDigits itoa nDigits)

/-- The number that a row of digits spells. -/
def dvalFrom (acc : Nat) (l : List UInt8) : Nat := l.foldl (fun a c => 10 * a + (c.toNat - 48)) acc
theorem dvalFrom_nil (acc : Nat) : dvalFrom acc [] = acc := rfl
theorem dvalFrom_cons (acc : Nat) (c : UInt8) (r : List UInt8) : dvalFrom acc (c :: r) = dvalFrom (10 * acc + (c.toNat - 48)) r := List.foldl_cons ..
def dval (l : List UInt8) : Nat := dvalFrom 0 l

def isDig (c : UInt8) : Bool := decide (48 ≤ c.toNat) && decide (c.toNat ≤ 57)

theorem snoc_induction {α : Type} {P : List α → Prop} (h0 : P []) (h1 : ∀ l a, P l → P (l ++ [a])) : ∀ l, P l := by
  have : ∀ n, ∀ l : List α, l.length = n → P l := by
    intro n
    induction n with
    | zero => intro l h; rw [List.length_eq_zero_iff] at h; rw [h]; exact h0
    | succ n ih =>
      intro l h
      have hne : l ≠ [] := by intro e; rw [e] at h; simp at h
      rw [← List.dropLast_concat_getLast hne]
      exact h1 _ _ (ih _ (by rw [List.length_dropLast]; omega))
  exact fun l => this _ l rfl

theorem dvalFrom_append (l m : List UInt8) : ∀ acc, dvalFrom acc (l ++ m) = dvalFrom (dvalFrom acc l) m := by
  intro acc; unfold dvalFrom; rw [List.foldl_append]

theorem dval_snoc (l : List UInt8) (c : UInt8) : dval (l ++ [c]) = 10 * dval l + (c.toNat - 48) := by
  unfold dval; rw [dvalFrom_append, dvalFrom_cons, dvalFrom_nil]

theorem dvalFrom_eq (l : List UInt8) : ∀ acc, dvalFrom acc l = acc * 10 ^ l.length + dval l := by
  induction l with
  | nil => intro acc; rw [dval, dvalFrom_nil, dvalFrom_nil, List.length_nil, Nat.pow_zero, Nat.mul_one, Nat.add_zero]
  | cons c r ih =>
    intro acc
    unfold dval
    rw [dvalFrom_cons, dvalFrom_cons, ih, ih (10 * 0 + (c.toNat - 48))]
    simp only [List.length_cons, Nat.pow_succ]
    generalize 10 ^ r.length = p
    generalize dval r = v; clear ih
    generalize c.toNat - 48 = d
    rw [Nat.mul_zero, Nat.zero_add, Nat.add_mul, Nat.mul_comm p 10, ← Nat.mul_assoc, Nat.mul_comm acc 10, Nat.add_assoc]

theorem dval_append (l m : List UInt8) : dval (l ++ m) = dval l * 10 ^ m.length + dval m := by
  have : dval (l ++ m) = dvalFrom (dval l) m := dvalFrom_append l m 0
  rw [this, dvalFrom_eq]

theorem isDig_iff (c : UInt8) : isDig c = true ↔ 48 ≤ c.toNat ∧ c.toNat ≤ 57 := by simp [isDig]

theorem dval_lt (l : List UInt8) (h : l.all isDig = true) : dval l < 10 ^ l.length := by
  induction l using snoc_induction with
  | h0 => rw [dval, dvalFrom_nil, List.length_nil, Nat.pow_zero]; omega
  | h1 l c ih =>
    simp only [List.all_append, List.all_cons, List.all_nil, Bool.and_true, Bool.and_eq_true] at h
    have hc := (isDig_iff c).1 h.2
    have := ih h.1
    rw [dval_snoc, List.length_append, List.length_singleton, Nat.pow_succ]
    omega

theorem ofNat_dig {d : Nat} (h : d < 10) : (UInt8.ofNat (48 + d)).toNat = 48 + d := by
  simp; omega

theorem decDigits_lt {u : Nat} (h : u < 10) : decDigits u = [UInt8.ofNat (48 + u)] := by rw [decDigits, dif_pos h]
theorem decDigits_ge {u : Nat} (h : ¬ u < 10) : decDigits u = decDigits (u / 10) ++ [UInt8.ofNat (48 + u % 10)] := by rw [decDigits, dif_neg h]

theorem decDigits_dig (u : Nat) : (decDigits u).all isDig = true := by
  induction u using Nat.strongRecOn with
  | _ u ih =>
    by_cases h : u < 10
    · rw [decDigits_lt h]; simp only [List.all_cons, List.all_nil, Bool.and_true]; rw [isDig_iff, ofNat_dig h]; omega
    · rw [decDigits_ge h, List.all_append, ih _ (by omega)]
      simp only [List.all_cons, List.all_nil, Bool.and_true, Bool.true_and]
      rw [isDig_iff, ofNat_dig (by omega)]; omega

theorem dval_decDigits (u : Nat) : dval (decDigits u) = u := by
  induction u using Nat.strongRecOn with
  | _ u ih =>
    by_cases h : u < 10
    · rw [decDigits_lt h]; show 10 * 0 + ((UInt8.ofNat (48 + u)).toNat - 48) = u; rw [ofNat_dig h]; omega
    · rw [decDigits_ge h, dval_snoc, ih _ (by omega), ofNat_dig (by omega)]; omega

theorem decDigits_ne (u : Nat) : decDigits u ≠ [] := by
  by_cases h : u < 10
  · rw [decDigits_lt h]; simp
  · rw [decDigits_ge h]; simp

theorem decDigits_head (u : Nat) (h0 : u ≠ 0) : (decDigits u).head? ≠ some 48 := by
  induction u using Nat.strongRecOn with
  | _ u ih =>
    by_cases h : u < 10
    · rw [decDigits_lt h]
      intro e
      simp only [List.head?_cons, Option.some.injEq] at e
      have := congrArg UInt8.toNat e
      rw [ofNat_dig h] at this
      have : (48 : UInt8).toNat = 48 := rfl
      omega
    · rw [decDigits_ge h, List.head?_append]
      have hne := decDigits_ne (u / 10)
      have := ih (u / 10) (by omega) (by omega)
      cases hd : (decDigits (u / 10)).head? with
      | none => rw [List.head?_eq_none_iff] at hd; exact absurd hd hne
      | some c => rw [hd] at this; simpa using this

/-- A row of digits without a zero in front is the one of its number. -/
theorem decDigits_dval (l : List UInt8) (hne : l ≠ []) (hd : l.all isDig = true) (hh : l.head? ≠ some 48) : decDigits (dval l) = l := by
  induction l using snoc_induction with
  | h0 => exact absurd rfl hne
  | h1 l c ih =>
    simp only [List.all_append, List.all_cons, List.all_nil, Bool.and_true, Bool.and_eq_true] at hd
    have hc := (isDig_iff c).1 hd.2
    have e2 : UInt8.ofNat (48 + (c.toNat - 48)) = c := by
      apply UInt8.toNat_inj.1; rw [ofNat_dig (by omega)]; omega
    cases hl : l with
    | nil =>
      subst hl
      show decDigits (10 * 0 + (c.toNat - 48)) = [c]
      rw [decDigits_lt (by omega), show 10 * 0 + (c.toNat - 48) = c.toNat - 48 by omega, e2]
    | cons a r =>
      have hl' : l ≠ [] := by rw [hl]; simp
      rw [← hl]
      have hh' : l.head? ≠ some 48 := by
        rw [List.head?_append, hl] at hh; rw [hl]; simpa using hh
      have ih' := ih hl' hd.1 hh'
      have hpos : dval l ≠ 0 := by
        intro e0
        rw [e0, decDigits_lt (by omega)] at ih'
        apply hh'
        rw [← ih']; rfl
      rw [dval_snoc, decDigits_ge (by omega)]
      rw [show (10 * dval l + (c.toNat - 48)) / 10 = dval l by omega, show (10 * dval l + (c.toNat - 48)) % 10 = c.toNat - 48 by omega, ih', e2]

/-- 'most' is the greatest number of digits. -/
def limit : Nat := 10 ^ 200

theorem decDigits_length_le (u k : Nat) (hk : 1 ≤ k) : (decDigits u).length ≤ k ↔ u < 10 ^ k := by
  induction u using Nat.strongRecOn generalizing k with
  | _ u ih =>
    by_cases h : u < 10
    · rw [decDigits_lt h]
      have : 10 ^ 1 ≤ 10 ^ k := Nat.pow_le_pow_right (by decide) hk
      simp only [List.length_singleton]
      omega
    · rw [decDigits_ge h, List.length_append, List.length_singleton]
      obtain ⟨k, rfl⟩ : ∃ j, k = j + 1 := ⟨k - 1, by omega⟩
      by_cases hk1 : k = 0
      · subst hk1
        have := decDigits_ne (u / 10)
        have : 1 ≤ (decDigits (u / 10)).length := by
          cases hx : decDigits (u / 10) with
          | nil => exact absurd hx this
          | cons a r => simp
        simp only [Nat.zero_add, Nat.pow_one]
        omega
      · have := ih (u / 10) (by omega) k (by omega)
        rw [Nat.pow_succ]
        omega

/-- The integer n as a string. -/
def str (n : Int) : List UInt8 := itoa n

/-- The digits of a string: all but a '-' in front. -/
def body (s : List UInt8) : List UInt8 := if s.head? = some 45 then s.tail else s

/-- Which strings are valid integers. -/
def valid (s : List UInt8) : Bool :=
  !(body s).isEmpty && decide ((body s).length ≤ 200) && (body s).all isDig && (decide (s = [48]) || decide ((body s).head? ≠ some 48))

/-- The number that a valid string is. -/
def num (s : List UInt8) : Int := if s.head? = some 45 then -(dval (body s) : Int) else (dval (body s) : Int)

theorem str_nonneg {n : Int} (h : 0 ≤ n) : str n = decDigits n.toNat := by unfold str itoa; rw [if_neg (by omega)]
theorem str_neg {n : Int} (h : n < 0) : str n = 45 :: decDigits n.natAbs := by unfold str itoa; rw [if_pos h]

theorem head_dig {l : List UInt8} (h : l.all isDig = true) : l.head? ≠ some 45 := by
  cases l with
  | nil => simp
  | cons c r =>
    simp only [List.all_cons, Bool.and_eq_true] at h
    have := (isDig_iff c).1 h.1
    intro e
    simp only [List.head?_cons, Option.some.injEq] at e
    subst e
    have : (45 : UInt8).toNat = 45 := rfl
    omega

theorem str_head_neg {n : Int} (h : n < 0) : (str n).head? = some 45 := by rw [str_neg h]; rfl
theorem str_head_nonneg {n : Int} (h : 0 ≤ n) : (str n).head? ≠ some 45 := by rw [str_nonneg h]; exact head_dig (decDigits_dig _)
theorem body_str (n : Int) : body (str n) = decDigits n.natAbs := by
  unfold body
  by_cases h : n < 0
  · rw [if_pos (str_head_neg h), str_neg h]; rfl
  · rw [if_neg (str_head_nonneg (by omega)), str_nonneg (by omega), show n.toNat = n.natAbs by omega]

theorem num_str (n : Int) : num (str n) = n := by
  unfold num
  rw [body_str, dval_decDigits]
  by_cases h : n < 0
  · rw [if_pos (str_head_neg h)]; omega
  · rw [if_neg (str_head_nonneg (by omega))]; omega

theorem str_inj {m n : Int} (h : str m = str n) : m = n := by rw [← num_str m, h, num_str]

theorem valid_str (n : Int) : valid (str n) = true ↔ n.natAbs < limit := by
  unfold valid
  rw [body_str, decDigits_dig]
  have h1 : (decDigits n.natAbs).isEmpty = false := by simpa using decDigits_ne n.natAbs
  have h2 := decDigits_length_le n.natAbs 200 (by decide)
  have h3 : (decide (str n = [48]) || decide ((decDigits n.natAbs).head? ≠ some 48)) = true := by
    by_cases h0 : n = 0
    · subst h0
      have : str 0 = [48] := by rw [str_nonneg (by omega), decDigits_lt (by decide)]; rfl
      simp [this]
    · have := decDigits_head n.natAbs (by omega)
      simp [this]
  rw [h1, h3]
  unfold limit
  simp only [Bool.not_false, Bool.true_and, Bool.and_true, decide_eq_true_eq]
  exact h2

theorem str_num {s : List UInt8} (h : valid s = true) : str (num s) = s := by
  unfold valid at h
  simp only [Bool.and_eq_true, Bool.or_eq_true, decide_eq_true_eq, Bool.not_eq_true', List.isEmpty_eq_false_iff] at h
  obtain ⟨⟨⟨hne, _⟩, hd⟩, h0⟩ := h
  unfold num
  rcases h0 with h0 | h0
  · subst h0
    have : body [48] = [48] := by decide
    rw [this]
    have : dval [48] = 0 := by decide
    rw [this]
    have : ¬ ([48] : List UInt8).head? = some 45 := by decide
    rw [if_neg this, str_nonneg (by decide)]
    show decDigits 0 = _
    rw [decDigits_lt (by decide)]; rfl
  · have hb := decDigits_dval (body s) hne hd h0
    by_cases hs : s.head? = some 45
    · rw [if_pos hs]
      have hpos : dval (body s) ≠ 0 := by
        intro e0
        rw [e0, decDigits_lt (by omega)] at hb
        exact h0 (by rw [← hb]; rfl)
      rw [str_neg (by omega), show (-(dval (body s) : Int)).natAbs = dval (body s) by omega, hb]
      unfold body
      rw [if_pos hs]
      cases s with
      | nil => simp at hs
      | cons c r => simp only [List.head?_cons, Option.some.injEq] at hs; subst hs; rfl
    · rw [if_neg hs, str_nonneg (by omega), show (dval (body s) : Int).toNat = dval (body s) by omega, hb]
      unfold body; rw [if_neg hs]

theorem num_lt {s : List UInt8} (h : valid s = true) : (num s).natAbs < limit := by
  rw [← valid_str, str_num h]; exact h

/-- A valid string is the one of a number. -/
theorem valid_iff (s : List UInt8) : valid s = true ↔ ∃ n : Int, n.natAbs < limit ∧ s = str n :=
  ⟨fun h => ⟨num s, num_lt h, (str_num h).symm⟩, fun ⟨n, hn, e⟩ => by rw [e]; exact (valid_str n).2 hn⟩

/-- A result: the string, or nothing where it has too many digits. -/
def res (n : Int) : List UInt8 × Int := if n.natAbs < limit then (str n, 0) else ([], 30)

end Go.Proofs.Dt

namespace Go.Proofs.Dt

/-- The value of a list of groups. -/
def val (B : Int) : List Int → Int
  | [] => 0
  | x :: r => x + B * val B r

def Dgs (B : Int) (l : List Int) : Prop := ∀ x ∈ l, 0 ≤ x ∧ x < B
def Nrm (l : List Int) : Prop := l.getLast? ≠ some 0

/-- The list of groups is the one of the number n. -/
structure RepN (B : Int) (l : List Int) (n : Nat) : Prop where
  good : Dgs B l
  norm : Nrm l
  val : val B l = (n : Int)

theorem val_nil (B : Int) : val B [] = 0 := rfl
theorem val_cons (B x : Int) (r : List Int) : val B (x :: r) = x + B * val B r := rfl

theorem val_append (B : Int) (l m : List Int) : val B (l ++ m) = val B l + B ^ l.length * val B m := by
  induction l with
  | nil => simp [val_nil]
  | cons x r ih => rw [List.cons_append, val_cons, val_cons, ih, List.length_cons, Int.pow_succ]; grind

theorem val_snoc (B x : Int) (l : List Int) : val B (l ++ [x]) = val B l + B ^ l.length * x := by
  rw [val_append, val_cons, val_nil]; grind

theorem Dgs.nil (B : Int) : Dgs B [] := by intro x h; simp at h
theorem Dgs.append {B : Int} {l m : List Int} (h : Dgs B l) (k : Dgs B m) : Dgs B (l ++ m) := by
  intro x hx; rcases List.mem_append.1 hx with e | e
  · exact h x e
  · exact k x e
theorem Dgs.one {B x : Int} (h0 : 0 ≤ x) (h1 : x < B) : Dgs B [x] := by intro y hy; rw [List.mem_singleton] at hy; subst hy; exact ⟨h0, h1⟩
theorem Dgs.cons {B x : Int} {l : List Int} (h0 : 0 ≤ x) (h1 : x < B) (h : Dgs B l) : Dgs B (x :: l) := by
  intro y hy; rcases List.mem_cons.1 hy with e | e
  · subst e; exact ⟨h0, h1⟩
  · exact h y e
theorem Dgs.tail {B x : Int} {l : List Int} (h : Dgs B (x :: l)) : Dgs B l := fun y hy => h y (List.mem_cons_of_mem _ hy)
theorem Dgs.head {B x : Int} {l : List Int} (h : Dgs B (x :: l)) : 0 ≤ x ∧ x < B := h x (List.mem_cons_self ..)
theorem Dgs.take {B : Int} {l : List Int} (h : Dgs B l) (k : Nat) : Dgs B (l.take k) := fun y hy => h y (List.mem_of_mem_take hy)
theorem Dgs.drop {B : Int} {l : List Int} (h : Dgs B l) (k : Nat) : Dgs B (l.drop k) := fun y hy => h y (List.mem_of_mem_drop hy)
theorem Dgs.get {B : Int} {l : List Int} (h : Dgs B l) (hB : 0 < B) (i : Nat) : 0 ≤ l[i]?.getD 0 ∧ l[i]?.getD 0 < B := by
  by_cases hi : i < l.length
  · rw [List.getElem?_eq_getElem hi]; exact h _ (List.getElem_mem hi)
  · rw [List.getElem?_eq_none (by omega)]; exact ⟨Int.le_refl _, hB⟩

theorem pow_mono {B : Int} (hB : 1 ≤ B) {m n : Nat} (h : m ≤ n) : B ^ m ≤ B ^ n := by
  induction n with
  | zero => have : m = 0 := by omega
            subst this; exact Int.le_refl _
  | succ n ih =>
    by_cases e : m = n + 1
    · subst e; exact Int.le_refl _
    · have h1 := ih (by omega)
      have h2 : 0 < B ^ n := Int.pow_pos (by omega)
      rw [Int.pow_succ]
      have h3 := Int.mul_le_mul_of_nonneg_left hB (show 0 ≤ B ^ n by omega)
      omega
theorem pow_pos {B : Int} (hB : 0 < B) (n : Nat) : 0 < B ^ n := Int.pow_pos hB

theorem val_bounds {B : Int} (hB : 0 < B) {l : List Int} (h : Dgs B l) : 0 ≤ val B l ∧ val B l < B ^ l.length := by
  induction l with
  | nil => simp [val_nil]
  | cons x r ih =>
    have := ih h.tail
    have hx := h.head
    rw [val_cons, List.length_cons, Int.pow_succ]
    have h1 : 0 ≤ B * val B r := Int.mul_nonneg (by omega) this.1
    have h2 : B * (val B r + 1) ≤ B * B ^ r.length := Int.mul_le_mul_of_nonneg_left (by omega) (by omega)
    rw [Int.mul_add, Int.mul_one, Int.mul_comm B (B ^ r.length)] at h2
    omega

theorem Nrm.nil : Nrm [] := by simp [Nrm]
theorem Nrm.snoc {l : List Int} {x : Int} (h : x ≠ 0) : Nrm (l ++ [x]) := by unfold Nrm; rw [List.getLast?_concat]; intro e; exact h (Option.some.inj e)
theorem Nrm.tail {l : List Int} {x : Int} (h : Nrm (x :: l)) : Nrm l := by
  unfold Nrm at *
  cases l with
  | nil => simp
  | cons y r => rwa [List.getLast?_cons_cons] at h

/-- A list without a zero at the end has at least the value of its last place. -/
theorem val_lower {B : Int} (hB : 1 < B) {l : List Int} (h : Dgs B l) (hn : Nrm l) (hl : l ≠ []) : B ^ (l.length - 1) ≤ val B l := by
  induction l with
  | nil => exact absurd rfl hl
  | cons x r ih =>
    cases r with
    | nil =>
      have := h.head
      have hx : x ≠ 0 := by intro e; subst e; exact hn rfl
      simp [val_cons, val_nil]; omega
    | cons y s =>
      have hi := ih h.tail hn.tail (by simp)
      have hx := h.head
      rw [val_cons]
      simp only [List.length_cons, Nat.add_sub_cancel] at *
      have := Int.mul_le_mul_of_nonneg_left hi (show 0 ≤ B by omega)
      rw [Int.pow_succ, Int.mul_comm]
      omega

theorem RepN.pos {B : Int} (hB : 1 < B) {l : List Int} {n : Nat} (h : RepN B l n) : l = [] ↔ n = 0 := by
  constructor
  · intro e; have := h.val; rw [e, val_nil] at this; omega
  · intro e
    rcases Classical.em (l = []) with h0 | h0
    · exact h0
    · have := val_lower hB h.good h.norm h0
      have := h.val
      have := pow_pos (show 0 < B by omega) (l.length - 1)
      omega

theorem RepN.length {B : Int} (hB : 1 < B) {l : List Int} {n : Nat} (h : RepN B l n) {k : Nat} (hn : (n : Int) < B ^ k) : l.length ≤ k := by
  rcases Classical.em (l = []) with h0 | h0
  · rw [h0]; simp
  · have h1 := val_lower hB h.good h.norm h0
    rw [h.val] at h1
    have h2 : 1 ≤ l.length := by cases l with | nil => exact absurd rfl h0 | cons a r => simp
    rcases Nat.lt_or_ge k l.length with h3 | h3
    · have : B ^ k ≤ B ^ (l.length - 1) := pow_mono (by omega) (by omega)
      omega
    · exact h3

theorem val_inj {B : Int} (hB : 1 < B) : ∀ {l m : List Int}, Dgs B l → Nrm l → Dgs B m → Nrm m → val B l = val B m → l = m
  | [], [], _, _, _, _, _ => rfl
  | [], y :: s, _, _, hg, hn, e => by
    have := val_lower hB hg hn (by simp)
    have := pow_pos (show 0 < B by omega) ((y :: s).length - 1)
    rw [val_nil] at e; omega
  | x :: r, [], hg, hn, _, _, e => by
    have := val_lower hB hg hn (by simp)
    have := pow_pos (show 0 < B by omega) ((x :: r).length - 1)
    rw [val_nil] at e; omega
  | x :: r, y :: s, hg, hn, hg', hn', e => by
    rw [val_cons, val_cons] at e
    have hx := hg.head
    have hy := hg'.head
    have hB0 : B ≠ 0 := by omega
    have hxy : x = y := by
      have h1 : (x + B * val B r) % B = x := by rw [Int.add_mul_emod_self_left]; exact Int.emod_eq_of_lt hx.1 hx.2
      have h2 : (y + B * val B s) % B = y := by rw [Int.add_mul_emod_self_left]; exact Int.emod_eq_of_lt hy.1 hy.2
      rw [← h1, e, h2]
    have hv : val B r = val B s := by
      have : B * val B r = B * val B s := by omega
      exact Int.eq_of_mul_eq_mul_left hB0 this
    rw [hxy, val_inj hB hg.tail hn.tail hg'.tail hn'.tail hv]

theorem RepN.inj {B : Int} (hB : 1 < B) {l m : List Int} {n : Nat} (h : RepN B l n) (k : RepN B m n) : l = m :=
  val_inj hB h.good h.norm k.good k.norm (by rw [h.val, k.val])

/-- Zeros at the end are left out. -/
theorem val_take_zeros {B : Int} (l : List Int) (k : Nat) (h : ∀ j, k ≤ j → j < l.length → l[j]?.getD 0 = 0) : val B (l.take k) = val B l := by
  induction l generalizing k with
  | nil => simp
  | cons x r ih =>
    cases k with
    | zero =>
      have hx : x = 0 := by simpa using h 0 (Nat.le_refl _) (by simp)
      have hr := ih 0 (fun j _ hj => by simpa using h (j + 1) (by omega) (by simpa using hj))
      rw [List.take_zero] at hr ⊢
      rw [val_cons, ← hr, hx, val_nil]; simp
    | succ k =>
      rw [List.take_succ_cons, val_cons, val_cons, ih k (fun j hk hj => by simpa using h (j + 1) (by omega) (by simpa using hj))]

theorem norm_take {l : List Int} {k : Nat} (hk : k ≤ l.length) (h : k = 0 ∨ l[k - 1]?.getD 0 ≠ 0) : Nrm (l.take k) := by
  rcases h with h | h
  · subst h; simp [Nrm]
  · rcases Nat.eq_zero_or_pos k with e | e
    · subst e; simp [Nrm]
    · unfold Nrm
      rw [List.getLast?_take, if_neg (by omega)]
      rw [List.getElem?_eq_getElem (by omega)] at h ⊢
      simpa using h

theorem rep_trim {B : Int} {l : List Int} {n : Nat} (hg : Dgs B l) (hv : val B l = (n : Int)) {k : Nat} (hk : k ≤ l.length) (h1 : ∀ j, k ≤ j → j < l.length → l[j]?.getD 0 = 0) (h2 : k = 0 ∨ l[k - 1]?.getD 0 ≠ 0) : RepN B (l.take k) n :=
  ⟨hg.take k, norm_take hk h2, by rw [val_take_zeros l k h1, hv]⟩

/-! ### Comparing -/

theorem val_split {B : Int} (l : List Int) (k : Nat) (hk : k ≤ l.length) : val B l = val B (l.take k) + B ^ k * val B (l.drop k) := by
  rw [show val B l = val B (l.take k ++ l.drop k) by rw [List.take_append_drop], val_append, List.length_take, Nat.min_eq_left hk]

theorem drop_cons {l : List Int} {k : Nat} (hk : k < l.length) : l.drop k = l[k]?.getD 0 :: l.drop (k + 1) := by
  rw [List.getElem?_eq_getElem hk]; exact List.drop_eq_getElem_cons hk

theorem lt_of_length {B : Int} (hB : 1 < B) {l m : List Int} {a b : Nat} (h : RepN B l a) (k : RepN B m b) (hl : l.length < m.length) : a < b := by
  have h1 := (val_bounds (by omega) h.good).2
  have h2 := val_lower hB k.good k.norm (by intro e; rw [e] at hl; simp at hl)
  have h3 : B ^ l.length ≤ B ^ (m.length - 1) := pow_mono (by omega) (by omega)
  rw [h.val] at h1; rw [k.val] at h2; omega

theorem lt_of_differ {B : Int} (hB : 1 < B) {l m : List Int} {a b : Nat} (h : RepN B l a) (h' : RepN B m b) (hl : l.length = m.length) {k : Nat} (hk : k < l.length)
    (hd : l.drop (k + 1) = m.drop (k + 1)) (hlt : l[k]?.getD 0 < m[k]?.getD 0) : a < b := by
  have e1 := val_split (B := B) l k (by omega)
  have e2 := val_split (B := B) m k (by omega)
  rw [drop_cons hk, val_cons] at e1
  rw [drop_cons (by omega), val_cons, ← hd] at e2
  have b1 := val_bounds (show 0 < B by omega) (h.good.take k)
  have b2 := val_bounds (show 0 < B by omega) (h'.good.take k)
  rw [List.length_take, Nat.min_eq_left (by omega)] at b1
  have hp := pow_pos (show 0 < B by omega) k
  rw [h.val] at e1; rw [h'.val] at e2
  have h3 : B ^ k * (l[k]?.getD 0 + 1) ≤ B ^ k * (m[k]?.getD 0) := Int.mul_le_mul_of_nonneg_left (by omega) (by omega)
  rw [Int.mul_add] at e1 e2
  rw [Int.mul_add, Int.mul_one] at h3
  omega

/-! ### Sums of digits -/

/-- The value of the digits F 0 .. F (n - 1), whatever integers they are. -/
def sumTo (B : Int) (F : Nat → Int) : Nat → Int
  | 0 => 0
  | n + 1 => sumTo B F n + B ^ n * F n

theorem sumTo_add (B : Int) (F G : Nat → Int) (n : Nat) : sumTo B (fun i => F i + G i) n = sumTo B F n + sumTo B G n := by
  induction n with
  | zero => rfl
  | succ n ih => simp only [sumTo, ih]; grind
theorem sumTo_sub (B : Int) (F G : Nat → Int) (n : Nat) : sumTo B (fun i => F i - G i) n = sumTo B F n - sumTo B G n := by
  induction n with
  | zero => rfl
  | succ n ih => simp only [sumTo, ih]; grind
theorem sumTo_mul (B k : Int) (F : Nat → Int) (n : Nat) : sumTo B (fun i => F i * k) n = sumTo B F n * k := by
  induction n with
  | zero => simp [sumTo]
  | succ n ih => simp only [sumTo, ih]; grind

theorem take_snoc {l : List Int} {n : Nat} (h : n < l.length) : l.take (n + 1) = l.take n ++ [l[n]?.getD 0] := by
  rw [List.take_succ_eq_append_getElem h, List.getElem?_eq_getElem h]; rfl

theorem sumTo_list (B : Int) (l : List Int) (n : Nat) (hn : n ≤ l.length) : sumTo B (fun i => l[i]?.getD 0) n = val B (l.take n) := by
  induction n with
  | zero => simp [sumTo, val_nil]
  | succ n ih =>
    simp only [sumTo]
    rw [ih (by omega), take_snoc (by omega), val_snoc, List.length_take, Nat.min_eq_left (by omega)]

theorem sumTo_all (B : Int) (l : List Int) (n : Nat) (hn : l.length ≤ n) : sumTo B (fun i => l[i]?.getD 0) n = val B l := by
  induction n with
  | zero => have : l = [] := List.length_eq_zero_iff.1 (by omega); subst this; rfl
  | succ n ih =>
    by_cases h : l.length = n + 1
    · rw [sumTo_list B l (n + 1) (by omega), ← h, List.take_length]
    · simp only [sumTo]
      rw [ih (by omega), List.getElem?_eq_none (by omega)]; simp

/-- What 'fold' does with a sum: the group that stays, and the carry. -/
def low (B s : Int) : Int := if s < 0 then s + B else if s ≥ B then s % B else s
def high (B s : Int) : Int := if s < 0 then -1 else if s ≥ B then s / B else 0

theorem low_high {B s : Int} : low B s + B * high B s = s := by
  unfold low high
  split
  · omega
  · split
    · exact Int.emod_add_mul_ediv s B
    · omega
theorem low_bounds {B s : Int} (hB : 0 < B) (hs : -B ≤ s) : 0 ≤ low B s ∧ low B s < B := by
  unfold low
  split
  · omega
  · split
    · exact ⟨Int.emod_nonneg _ (by omega), Int.emod_lt_of_pos _ hB⟩
    · omega

/-- One step of 'fold'. -/
theorem fold_step {B : Int} {F : Nat → Int} {out : List Int} {c : Int} {i : Nat} (hl : out.length = i) (hv : val B out + B ^ i * c = sumTo B F i) :
    val B (out ++ [low B (F i + c)]) + B ^ (i + 1) * high B (F i + c) = sumTo B F (i + 1) := by
  have h := low_high (B := B) (s := F i + c)
  rw [val_snoc, hl, Int.pow_succ]
  simp only [sumTo]
  rw [← hv]
  grind

/-! ### Division -/

theorem div_step {m r x d B : Int} (hm : 0 < m) (hr0 : 0 ≤ r) (hr : r < m) (hx0 : 0 ≤ x) (hx : x < B) (hB : 0 < B) (hd : d = (x + B * r) / m) :
    0 ≤ d ∧ d < B ∧ 0 ≤ x + B * r - d * m ∧ x + B * r - d * m < m := by
  have h0 : 0 ≤ x + B * r := by have := Int.mul_nonneg (show 0 ≤ B by omega) hr0; omega
  have h1 : x + B * r < B * m := by
    have := Int.mul_le_mul_of_nonneg_left (show r + 1 ≤ m by omega) (show 0 ≤ B by omega)
    rw [Int.mul_add] at this; omega
  subst hd
  refine ⟨Int.ediv_nonneg h0 (by omega), Int.ediv_lt_of_lt_mul hm h1, ?_, ?_⟩
  · have := Int.ediv_mul_le (x + B * r) (show m ≠ 0 by omega); omega
  · have := Int.lt_ediv_add_one_mul_self (x + B * r) hm; rw [Int.add_mul] at this; omega

end Go.Proofs.Dt

namespace Go.Proofs.Dt
open Go.Lib (decDigits itoa nDigits)

/-! ### Groups of four digits (the program) -/

theorem ten_pow4 (k : Nat) : (10 : Int) ^ (4 * k) = 10000 ^ k := by
  rw [Int.pow_mul]; rfl

/-- One step of 'parse': four digits more, at the front. -/
theorem parse_step {d : List UInt8} {xs : List Int} {f g : Nat} (hg : g ≤ f) (hk : d.length - f = 4 * xs.length) (hv : val 10000 xs = (dval (d.drop f) : Int)) :
    val 10000 (xs ++ [(dval ((d.drop g).take (f - g)) : Int)]) = (dval (d.drop g) : Int) := by
  have e : d.drop g = (d.drop g).take (f - g) ++ d.drop f := by
    have := (List.take_append_drop (f - g) (d.drop g)).symm
    rwa [List.drop_drop, show g + (f - g) = f by omega] at this
  rw [val_snoc, hv]
  have h2 : (dval (d.drop g) : Int) = dval ((d.drop g).take (f - g)) * 10 ^ (d.drop f).length + dval (d.drop f) := by
    rw [e, dval_append]
    simp only [← e]
    push_cast; rfl
  rw [h2, List.length_drop, hk]
  rw [ten_pow4]
  grind

theorem dval4_lt {l : List UInt8} (h : l.all isDig = true) (hl : l.length ≤ 4) : (dval l : Int) < 10000 := by
  have h1 := dval_lt l h
  have h2 : 10 ^ l.length ≤ 10 ^ 4 := Nat.pow_le_pow_right (by decide) hl
  have : (10 : Nat) ^ 4 = 10000 := by decide
  omega

theorem all_take {p : UInt8 → Bool} {l : List UInt8} (h : l.all p = true) (k : Nat) : (l.take k).all p = true := by
  rw [List.all_eq_true] at *; intro x hx; exact h x (List.mem_of_mem_take hx)
theorem all_drop {p : UInt8 → Bool} {l : List UInt8} (h : l.all p = true) (k : Nat) : (l.drop k).all p = true := by
  rw [List.all_eq_true] at *; intro x hx; exact h x (List.mem_of_mem_drop hx)

/-- A group as four digits. -/
def pad4 (g : Nat) : List UInt8 := List.replicate (4 - (decDigits g).length) 48 ++ decDigits g

theorem dval_zeros (k : Nat) (l : List UInt8) : dval (List.replicate k 48 ++ l) = dval l := by
  rw [dval_append]
  have : dval (List.replicate k 48) = 0 := by
    induction k with
    | zero => rfl
    | succ k ih => rw [List.replicate_succ', dval_snoc, ih]; rfl
  rw [this]; omega

theorem zeros_dig (k : Nat) : (List.replicate k (48 : UInt8)).all isDig = true := by
  rw [List.all_eq_true]; intro x hx; rw [(List.mem_replicate.1 hx).2]; decide

theorem pad4_dig (g : Nat) : (pad4 g).all isDig = true := by
  unfold pad4; rw [List.all_append, zeros_dig, decDigits_dig]; rfl

theorem dval_pad4 (g : Nat) : dval (pad4 g) = g := by unfold pad4; rw [dval_zeros, dval_decDigits]

theorem pad4_length {g : Nat} (h : g < 10000) : (pad4 g).length = 4 := by
  unfold pad4
  have := (decDigits_length_le g 4 (by decide)).2 (by omega)
  rw [List.length_append, List.length_replicate]; omega

/-- One step of 'text'. -/
theorem decDigits_pad4 {n g : Nat} (hn : n ≠ 0) (hg : g < 10000) : decDigits (n * 10000 + g) = decDigits n ++ pad4 g := by
  have h := decDigits_dval (decDigits n ++ pad4 g) (by simp [decDigits_ne n]) (by rw [List.all_append, decDigits_dig, pad4_dig]; rfl) (by
    rw [List.head?_append]
    have := decDigits_head n hn
    cases hd : (decDigits n).head? with
    | none => rw [List.head?_eq_none_iff] at hd; exact absurd hd (decDigits_ne n)
    | some c => rw [hd] at this; simpa using this)
  rw [dval_append, dval_decDigits, dval_pad4, pad4_length hg] at h
  exact h

/-! ### Single digits (the reference) -/

/-- What 'text' of the reference writes: the digits, the highest one first. -/
def digs (l : List Int) : List UInt8 := l.reverse.map fun d => UInt8.ofNat (48 + d.toNat)

theorem digs_nil : digs [] = [] := rfl
theorem digs_cons (x : Int) (r : List Int) : digs (x :: r) = digs r ++ [UInt8.ofNat (48 + x.toNat)] := by simp [digs]
theorem digs_length (l : List Int) : (digs l).length = l.length := by simp [digs]

theorem digs_dig {l : List Int} (h : Dgs 10 l) : (digs l).all isDig = true := by
  induction l with
  | nil => rfl
  | cons x r ih =>
    have hx := h.head
    rw [digs_cons, List.all_append, ih h.tail]
    simp only [List.all_cons, List.all_nil, Bool.and_true, Bool.true_and]
    rw [isDig_iff, ofNat_dig (by omega)]; omega

theorem dval_digs {l : List Int} (h : Dgs 10 l) : (dval (digs l) : Int) = val 10 l := by
  induction l with
  | nil => rfl
  | cons x r ih =>
    have hx := h.head
    rw [digs_cons, dval_snoc, ofNat_dig (by omega), val_cons, ← ih h.tail]
    omega

theorem digs_head {l : List Int} (h : Dgs 10 l) (hn : Nrm l) : (digs l).head? ≠ some 48 := by
  rcases Classical.em (l = []) with e | e
  · subst e; simp [digs]
  · obtain ⟨m, x, rfl⟩ : ∃ m x, l = m ++ [x] := ⟨l.dropLast, l.getLast e, (List.dropLast_concat_getLast e).symm⟩
    have hb := h x (by simp)
    have hz : x ≠ 0 := by
      intro e0; apply hn; rw [List.getLast?_concat, e0]
    have : (digs (m ++ [x])).head? = some (UInt8.ofNat (48 + x.toNat)) := by simp [digs]
    rw [this]
    intro e2
    have e3 := congrArg UInt8.toNat (Option.some.inj e2)
    rw [ofNat_dig (by omega)] at e3
    have : (48 : UInt8).toNat = 48 := rfl
    omega

theorem digs_rep {l : List Int} {n : Nat} (h : RepN 10 l n) (h0 : n ≠ 0) : digs l = decDigits n := by
  have hne : l ≠ [] := fun e => h0 ((h.pos (by decide)).1 e)
  have hd : dval (digs l) = n := by have := dval_digs h.good; rw [h.val] at this; omega
  rw [← hd]
  exact (decDigits_dval _ (by intro e; apply hne; have := digs_length l; rw [e] at this; exact List.length_eq_zero_iff.1 this.symm) (digs_dig h.good) (digs_head h.good h.norm)).symm

/-- The digits of a string, the lowest one first. -/
def undigs (s : List UInt8) : List Int := s.reverse.map fun c => ((c.toNat - 48 : Nat) : Int)

theorem undigs_good {s : List UInt8} (h : s.all isDig = true) : Dgs 10 (undigs s) := by
  intro x hx
  unfold undigs at hx
  obtain ⟨c, hc, rfl⟩ := List.mem_map.1 hx
  have := (isDig_iff c).1 ((List.all_eq_true.1 h) c (List.mem_reverse.1 hc))
  omega

theorem undigs_snoc (s : List UInt8) (c : UInt8) : undigs (s ++ [c]) = ((c.toNat - 48 : Nat) : Int) :: undigs s := by simp [undigs]

theorem val_undigs (s : List UInt8) : val 10 (undigs s) = (dval s : Int) := by
  induction s using snoc_induction with
  | h0 => rfl
  | h1 s c ih => rw [undigs_snoc, val_cons, ih, dval_snoc]; omega

theorem undigs_norm {s : List UInt8} (hd : s.all isDig = true) (h : s.head? ≠ some 48) : Nrm (undigs s) := by
  cases s with
  | nil => exact Nrm.nil
  | cons c r =>
    have hc := (isDig_iff c).1 ((List.all_eq_true.1 hd) c (List.mem_cons_self ..))
    have e : undigs (c :: r) = undigs r ++ [((c.toNat - 48 : Nat) : Int)] := by simp [undigs]
    rw [e]
    apply Nrm.snoc
    intro e0
    apply h
    have : c = 48 := by apply UInt8.toNat_inj.1; have : (48 : UInt8).toNat = 48 := rfl; omega
    rw [this]; rfl

end Go.Proofs.Dt

namespace Go.Proofs.Dt

/-- r is the greatest number whose square is at most n. -/
def IsRoot (r n : Nat) : Prop := r * r ≤ n ∧ n < (r + 1) * (r + 1)

theorem IsRoot.inj {r s n : Nat} (h : IsRoot r n) (k : IsRoot s n) : r = s := by
  rcases Nat.lt_trichotomy r s with e | e | e
  · have := Nat.mul_le_mul (show r + 1 ≤ s from e) (show r + 1 ≤ s from e)
    have h2 := h.2; have h3 := k.1; omega
  · exact e
  · have := Nat.mul_le_mul (show s + 1 ≤ r from e) (show s + 1 ≤ r from e)
    have h2 := k.2; have h3 := h.1; omega

theorem IsRoot.exists (n : Nat) : ∃ r, IsRoot r n := by
  have : ∀ k, ∃ r, r * r ≤ n ∧ (n < (r + 1) * (r + 1) ∨ k ≤ r) := by
    intro k
    induction k with
    | zero => exact ⟨0, by omega, Or.inr (Nat.le_refl _)⟩
    | succ k ih =>
      obtain ⟨r, h1, h2⟩ := ih
      rcases Nat.lt_or_ge n ((r + 1) * (r + 1)) with h | h
      · exact ⟨r, h1, Or.inl h⟩
      · rcases h2 with h2 | h2
        · omega
        · exact ⟨r + 1, h, Or.inr (by omega)⟩
  obtain ⟨r, h1, h2⟩ := this (n + 1)
  rcases h2 with h2 | h2
  · exact ⟨r, h1, h2⟩
  · have := Nat.mul_le_mul h2 h2
    have : (n + 1) * 1 ≤ (n + 1) * (n + 1) := Nat.mul_le_mul_left _ (by omega)
    omega

theorem IsRoot.square (r : Nat) : IsRoot r (r * r) := ⟨Nat.le_refl _, by rw [Nat.add_mul, Nat.mul_add]; omega⟩

/-- A step of Newton's stays at or above the root. -/
theorem newton_ge {s n r : Nat} (hs : s * s ≤ n) (hr : 0 < r) : s ≤ (r + n / r) / 2 := by
  have h : 2 * s ≤ r + n / r := by
    rcases Nat.lt_or_ge (2 * s) r with h | h
    · exact Nat.le_trans (Nat.le_of_lt h) (Nat.le_add_right _ _)
    · have h1 : 2 * s - r ≤ n / r := by
        rw [Nat.le_div_iff_mul_le hr]
        refine Nat.le_trans ?_ hs
        rcases Nat.le_total r s with h2 | h2
        · obtain ⟨d, rfl⟩ := Nat.exists_eq_add_of_le h2
          have : 2 * (r + d) - r = r + 2 * d := by omega
          rw [this]; grind
        · obtain ⟨d, rfl⟩ := Nat.exists_eq_add_of_le h2
          have e : 2 * s - (s + d) = s - d := by omega
          rw [e]
          obtain ⟨c, rfl⟩ := Nat.exists_eq_add_of_le (show d ≤ s by omega)
          rw [show d + c - d = c by omega]
          grind
      omega
  omega

/-- Where it does not fall, it stands at the root. -/
theorem newton_stop {s n r : Nat} (h : IsRoot s n) (hr : 0 < r) (hrs : s ≤ r) (hst : r ≤ (r + n / r) / 2) : r = s := by
  have h1 : r ≤ n / r := by omega
  rw [Nat.le_div_iff_mul_le hr] at h1
  rcases Nat.lt_or_ge s r with e | e
  · have := Nat.mul_le_mul (show s + 1 ≤ r from e) (show s + 1 ≤ r from e)
    have := h.2; omega
  · omega

theorem IsRoot.lt {s n k : Nat} (h : IsRoot s n) (hn : n < k * k) : s < k := by
  rcases Nat.lt_or_ge s k with e | e
  · exact e
  · have := Nat.mul_le_mul e e; have := h.1; omega

theorem IsRoot.pos {s n : Nat} (h : IsRoot s n) (hn : 0 < n) : 0 < s := by
  rcases Nat.eq_zero_or_pos s with e | e
  · subst e; have := h.2; omega
  · exact e

/-- Bounds by digits. -/
def Bd (k : Nat) (x : Int) : Prop := x.natAbs < 10 ^ k

theorem Bd.mono {a b : Nat} {x : Int} (h : Bd a x) (hab : a ≤ b) : Bd b x := Nat.lt_of_lt_of_le h (Nat.pow_le_pow_right (by decide) hab)
theorem Bd.mul {a b : Nat} {x y : Int} (h : Bd a x) (k : Bd b y) : Bd (a + b) (x * y) := by
  unfold Bd at *
  rw [Int.natAbs_mul, Nat.pow_add]
  exact Nat.mul_lt_mul'' h k
theorem Bd.add {a : Nat} {x y : Int} (h : Bd a x) (k : Bd a y) : Bd (a + 1) (x + y) := by
  unfold Bd at *
  rw [Nat.pow_succ]; omega
theorem Bd.sub {a : Nat} {x y : Int} (h : Bd a x) (k : Bd a y) : Bd (a + 1) (x - y) := by
  unfold Bd at *
  rw [Nat.pow_succ]; omega
theorem Bd.neg {a : Nat} {x : Int} (h : Bd a x) : Bd a (-x) := by unfold Bd at *; omega
theorem Bd.limit {a : Nat} {x : Int} (h : Bd a x) (ha : a ≤ 200) : x.natAbs < limit := h.mono ha
theorem Bd.div {a : Nat} {x : Int} (h : Bd a x) (y : Int) : Bd a (x / y) := by
  unfold Bd at *
  have : (x / y).natAbs ≤ x.natAbs := Int.natAbs_ediv_le_natAbs x y
  omega

end Go.Proofs.Dt

namespace Go.Proofs.Dt

/-- Two valid integers give a number; others give nothing. -/
def bin (f : Int → Int → Int) (a b : List UInt8) : List UInt8 × Int := if valid a && valid b then res (f (num a) (num b)) else ([], 30)
def addS : List UInt8 → List UInt8 → List UInt8 × Int := bin (· + ·)
def subS : List UInt8 → List UInt8 → List UInt8 × Int := bin (· - ·)
def mulS : List UInt8 → List UInt8 → List UInt8 × Int := bin (· * ·)
def gcdS : List UInt8 → List UInt8 → List UInt8 × Int := bin (fun x y => (Int.gcd x y : Int))
def divS (a b : List UInt8) : List UInt8 × List UInt8 × Int :=
  if valid a && valid b && decide (num b ≠ 0) then (if (num a / num b).natAbs < limit then (str (num a / num b), str (num a % num b), 0) else ([], [], 30)) else ([], [], 30)
/-- The sign of a difference. -/
def sgn (x : Int) : Int := if x < 0 then -1 else if 0 < x then 1 else 0
def cmpS (a b : List UInt8) : Int := if valid a && valid b then sgn (num a - num b) else 0
def toIntS (s : List UInt8) : Int × Int := if valid s && decide (-9223372036854775808 ≤ num s) && decide (num s ≤ 9223372036854775807) then (num s, 0) else (0, 30)

theorem bin_str (f : Int → Int → Int) {x y : Int} (hx : x.natAbs < limit) (hy : y.natAbs < limit) : bin f (str x) (str y) = res (f x y) := by
  unfold bin; rw [(valid_str x).2 hx, (valid_str y).2 hy, num_str, num_str]; rfl
theorem res_ok {n : Int} (h : n.natAbs < limit) : res n = (str n, 0) := by unfold res; rw [if_pos h]
theorem res_no {n : Int} (h : ¬ n.natAbs < limit) : res n = ([], 30) := by unfold res; rw [if_neg h]
theorem addS_str {x y : Int} (hx : x.natAbs < limit) (hy : y.natAbs < limit) (h : (x + y).natAbs < limit) : addS (str x) (str y) = (str (x + y), 0) := by
  unfold addS; rw [bin_str _ hx hy, res_ok h]
theorem subS_str {x y : Int} (hx : x.natAbs < limit) (hy : y.natAbs < limit) (h : (x - y).natAbs < limit) : subS (str x) (str y) = (str (x - y), 0) := by
  unfold subS; rw [bin_str _ hx hy, res_ok h]
theorem mulS_str {x y : Int} (hx : x.natAbs < limit) (hy : y.natAbs < limit) (h : (x * y).natAbs < limit) : mulS (str x) (str y) = (str (x * y), 0) := by
  unfold mulS; rw [bin_str _ hx hy, res_ok h]
theorem gcdS_str {x y : Int} (hx : x.natAbs < limit) (hy : y.natAbs < limit) (h : Int.gcd x y < limit) : gcdS (str x) (str y) = (str (Int.gcd x y : Int), 0) := by
  unfold gcdS; rw [bin_str _ hx hy, res_ok (by omega)]
theorem divS_str {x y : Int} (hx : x.natAbs < limit) (hy : y.natAbs < limit) (h0 : y ≠ 0) : divS (str x) (str y) = (str (x / y), str (x % y), 0) := by
  have h1 : (x / y).natAbs < limit := by have := Int.natAbs_ediv_le_natAbs x y; omega
  unfold divS; rw [(valid_str x).2 hx, (valid_str y).2 hy, num_str, num_str]
  simp [h0, h1]
theorem divS_zero {x : Int} (b : List UInt8) (hb : num b = 0) : divS (str x) b = ([], [], 30) := by
  unfold divS; simp [hb]
theorem cmpS_str {x y : Int} (hx : x.natAbs < limit) (hy : y.natAbs < limit) : cmpS (str x) (str y) = sgn (x - y) := by
  unfold cmpS; rw [(valid_str x).2 hx, (valid_str y).2 hy, num_str, num_str]; rfl
theorem gcd_le_limit {x y : Int} (hx : x.natAbs < limit) (hy : y.natAbs < limit) : Int.gcd x y < limit := by
  have hl : 0 < limit := by unfold limit; exact Nat.pow_pos (by decide)
  rcases Classical.em (x = 0) with e | e
  · subst e; rw [Int.gcd_zero_left]; exact hy
  · have := Int.gcd_le_natAbs_left y e; omega

end Go.Proofs.Dt

namespace Go.Proofs.Dt
open Go.Lib (decDigits)

/-- What the reference's 'text' returns. -/
def rtextS (neg : Bool) (xs : List Int) : List UInt8 × Bool := if xs = [] then ([48], true) else ((if neg then [45] else []) ++ digs xs, decide (xs.length ≤ 200))

theorem rtextS_nil (neg : Bool) : rtextS neg [] = ([48], true) := rfl
theorem rtextS_ne (neg : Bool) {xs : List Int} (h : xs ≠ []) : rtextS neg xs = ((if neg then [45] else []) ++ digs xs, decide (xs.length ≤ 200)) := by
  unfold rtextS; rw [if_neg h]

theorem str_zero : str 0 = [48] := by rw [str_nonneg (by decide)]; show decDigits 0 = _; rw [decDigits_lt (by decide)]; rfl

theorem rtext_str (neg : Bool) {xs : List Int} {n : Nat} (h : RepN 10 xs n) : (rtextS neg xs).1 = str (if neg then -(n : Int) else n) := by
  by_cases h0 : xs = []
  · have hn := (h.pos (by decide)).1 h0
    subst hn; subst h0
    rw [rtextS_nil, show (if neg = true then -((0 : Nat) : Int) else ((0 : Nat) : Int)) = 0 by cases neg <;> rfl, str_zero]
  · have hn : n ≠ 0 := fun e => h0 ((h.pos (by decide)).2 e)
    rw [rtextS_ne _ h0, digs_rep h hn]
    cases neg with
    | false => rw [if_neg (by decide), if_neg (by decide), str_nonneg (by omega)]; rfl
    | true => rw [if_pos rfl, if_pos rfl, str_neg (by omega), Int.natAbs_neg, Int.natAbs_natCast]; rfl

theorem rep_bd {xs : List Int} {n k : Nat} (h : RepN 10 xs n) (hl : xs.length ≤ k) : n < 10 ^ k := by
  have h1 := (val_bounds (by decide) h.good).2
  rw [h.val] at h1
  have h2 : n < 10 ^ xs.length := Int.ofNat_lt.1 (by rw [Int.natCast_pow]; exact h1)
  exact Nat.lt_of_lt_of_le h2 (Nat.pow_le_pow_right (by decide) hl)

/-- A list of digits of which zeros are left out at the end. -/
theorem rep_cut {xs : List Int} {k : Nat} (hd : Dgs 10 xs) (hk : k ≤ xs.length) (hz : ∀ j, k ≤ j → j < xs.length → xs[j]?.getD 0 = 0) (hl : k = 0 ∨ xs[k - 1]?.getD 0 ≠ 0) :
    ∃ n, RepN 10 (xs.take k) n ∧ val 10 xs = (n : Int) := by
  have hv := val_bounds (B := 10) (by decide) hd
  obtain ⟨n, hn⟩ := Int.eq_ofNat_of_zero_le hv.1
  exact ⟨n, rep_trim hd hn hk hz hl, hn⟩

theorem digs_drop {xs : List Int} {f : Nat} (h0 : 0 < f) (hf : f ≤ xs.length) : digs (xs.drop (f - 1)) = digs (xs.drop f) ++ [UInt8.ofNat (48 + (xs[f - 1]?.getD 0).toNat)] := by
  have h1 : f - 1 < xs.length := by omega
  rw [List.drop_eq_getElem_cons h1, digs_cons, show f - 1 + 1 = f by omega, List.getElem?_eq_getElem h1]; rfl

end Go.Proofs.Dt
