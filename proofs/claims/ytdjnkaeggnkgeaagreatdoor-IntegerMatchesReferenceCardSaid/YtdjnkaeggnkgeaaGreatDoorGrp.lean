/- Plain facts on numbers that are kept as lists of groups, the lowest one first, in a base B. -/
namespace Go.Proofs.Dt

/-- The value of a list of groups. -/
def val (B : Int) : List Int → Int
  | [] => 0
  | x :: r => x + B * val B r

def Dgs (B : Int) (l : List Int) : Prop := ∀ x ∈ l, 0 ≤ x ∧ x < B
def Nrm (l : List Int) : Prop := l.getLast? ≠ some 0

/-- The list of groups is the one of the number n. -/
structure RepN (B : Int) (l : List Int) (n : Nat) : Prop where
  good : Dgs B l
  norm : Nrm l
  val : val B l = (n : Int)

theorem val_nil (B : Int) : val B [] = 0 := rfl
theorem val_cons (B x : Int) (r : List Int) : val B (x :: r) = x + B * val B r := rfl

theorem val_append (B : Int) (l m : List Int) : val B (l ++ m) = val B l + B ^ l.length * val B m := by
  induction l with
  | nil => simp [val_nil]
  | cons x r ih => rw [List.cons_append, val_cons, val_cons, ih, List.length_cons, Int.pow_succ]; grind

theorem val_snoc (B x : Int) (l : List Int) : val B (l ++ [x]) = val B l + B ^ l.length * x := by
  rw [val_append, val_cons, val_nil]; grind

theorem Dgs.nil (B : Int) : Dgs B [] := by intro x h; simp at h
theorem Dgs.append {B : Int} {l m : List Int} (h : Dgs B l) (k : Dgs B m) : Dgs B (l ++ m) := by
  intro x hx; rcases List.mem_append.1 hx with e | e
  · exact h x e
  · exact k x e
theorem Dgs.one {B x : Int} (h0 : 0 ≤ x) (h1 : x < B) : Dgs B [x] := by intro y hy; rw [List.mem_singleton] at hy; subst hy; exact ⟨h0, h1⟩
theorem Dgs.cons {B x : Int} {l : List Int} (h0 : 0 ≤ x) (h1 : x < B) (h : Dgs B l) : Dgs B (x :: l) := by
  intro y hy; rcases List.mem_cons.1 hy with e | e
  · subst e; exact ⟨h0, h1⟩
  · exact h y e
theorem Dgs.tail {B x : Int} {l : List Int} (h : Dgs B (x :: l)) : Dgs B l := fun y hy => h y (List.mem_cons_of_mem _ hy)
theorem Dgs.head {B x : Int} {l : List Int} (h : Dgs B (x :: l)) : 0 ≤ x ∧ x < B := h x (List.mem_cons_self ..)
theorem Dgs.take {B : Int} {l : List Int} (h : Dgs B l) (k : Nat) : Dgs B (l.take k) := fun y hy => h y (List.mem_of_mem_take hy)
theorem Dgs.drop {B : Int} {l : List Int} (h : Dgs B l) (k : Nat) : Dgs B (l.drop k) := fun y hy => h y (List.mem_of_mem_drop hy)
theorem Dgs.get {B : Int} {l : List Int} (h : Dgs B l) (hB : 0 < B) (i : Nat) : 0 ≤ l[i]?.getD 0 ∧ l[i]?.getD 0 < B := by
  by_cases hi : i < l.length
  · rw [List.getElem?_eq_getElem hi]; exact h _ (List.getElem_mem hi)
  · rw [List.getElem?_eq_none (by omega)]; exact ⟨Int.le_refl _, hB⟩

theorem pow_mono {B : Int} (hB : 1 ≤ B) {m n : Nat} (h : m ≤ n) : B ^ m ≤ B ^ n := by
  induction n with
  | zero => have : m = 0 := by omega
            subst this; exact Int.le_refl _
  | succ n ih =>
    by_cases e : m = n + 1
    · subst e; exact Int.le_refl _
    · have h1 := ih (by omega)
      have h2 : 0 < B ^ n := Int.pow_pos (by omega)
      rw [Int.pow_succ]
      have h3 := Int.mul_le_mul_of_nonneg_left hB (show 0 ≤ B ^ n by omega)
      omega
theorem pow_pos {B : Int} (hB : 0 < B) (n : Nat) : 0 < B ^ n := Int.pow_pos hB

theorem val_bounds {B : Int} (hB : 0 < B) {l : List Int} (h : Dgs B l) : 0 ≤ val B l ∧ val B l < B ^ l.length := by
  induction l with
  | nil => simp [val_nil]
  | cons x r ih =>
    have := ih h.tail
    have hx := h.head
    rw [val_cons, List.length_cons, Int.pow_succ]
    have h1 : 0 ≤ B * val B r := Int.mul_nonneg (by omega) this.1
    have h2 : B * (val B r + 1) ≤ B * B ^ r.length := Int.mul_le_mul_of_nonneg_left (by omega) (by omega)
    rw [Int.mul_add, Int.mul_one, Int.mul_comm B (B ^ r.length)] at h2
    omega

theorem Nrm.nil : Nrm [] := by simp [Nrm]
theorem Nrm.snoc {l : List Int} {x : Int} (h : x ≠ 0) : Nrm (l ++ [x]) := by unfold Nrm; rw [List.getLast?_concat]; intro e; exact h (Option.some.inj e)
theorem Nrm.tail {l : List Int} {x : Int} (h : Nrm (x :: l)) : Nrm l := by
  unfold Nrm at *
  cases l with
  | nil => simp
  | cons y r => rwa [List.getLast?_cons_cons] at h

/-- A list without a zero at the end has at least the value of its last place. -/
theorem val_lower {B : Int} (hB : 1 < B) {l : List Int} (h : Dgs B l) (hn : Nrm l) (hl : l ≠ []) : B ^ (l.length - 1) ≤ val B l := by
  induction l with
  | nil => exact absurd rfl hl
  | cons x r ih =>
    cases r with
    | nil =>
      have := h.head
      have hx : x ≠ 0 := by intro e; subst e; exact hn rfl
      simp [val_cons, val_nil]; omega
    | cons y s =>
      have hi := ih h.tail hn.tail (by simp)
      have hx := h.head
      rw [val_cons]
      simp only [List.length_cons, Nat.add_sub_cancel] at *
      have := Int.mul_le_mul_of_nonneg_left hi (show 0 ≤ B by omega)
      rw [Int.pow_succ, Int.mul_comm]
      omega

theorem RepN.pos {B : Int} (hB : 1 < B) {l : List Int} {n : Nat} (h : RepN B l n) : l = [] ↔ n = 0 := by
  constructor
  · intro e; have := h.val; rw [e, val_nil] at this; omega
  · intro e
    rcases Classical.em (l = []) with h0 | h0
    · exact h0
    · have := val_lower hB h.good h.norm h0
      have := h.val
      have := pow_pos (show 0 < B by omega) (l.length - 1)
      omega

theorem RepN.length {B : Int} (hB : 1 < B) {l : List Int} {n : Nat} (h : RepN B l n) {k : Nat} (hn : (n : Int) < B ^ k) : l.length ≤ k := by
  rcases Classical.em (l = []) with h0 | h0
  · rw [h0]; simp
  · have h1 := val_lower hB h.good h.norm h0
    rw [h.val] at h1
    have h2 : 1 ≤ l.length := by cases l with | nil => exact absurd rfl h0 | cons a r => simp
    rcases Nat.lt_or_ge k l.length with h3 | h3
    · have : B ^ k ≤ B ^ (l.length - 1) := pow_mono (by omega) (by omega)
      omega
    · exact h3

theorem val_inj {B : Int} (hB : 1 < B) : ∀ {l m : List Int}, Dgs B l → Nrm l → Dgs B m → Nrm m → val B l = val B m → l = m
  | [], [], _, _, _, _, _ => rfl
  | [], y :: s, _, _, hg, hn, e => by
    have := val_lower hB hg hn (by simp)
    have := pow_pos (show 0 < B by omega) ((y :: s).length - 1)
    rw [val_nil] at e; omega
  | x :: r, [], hg, hn, _, _, e => by
    have := val_lower hB hg hn (by simp)
    have := pow_pos (show 0 < B by omega) ((x :: r).length - 1)
    rw [val_nil] at e; omega
  | x :: r, y :: s, hg, hn, hg', hn', e => by
    rw [val_cons, val_cons] at e
    have hx := hg.head
    have hy := hg'.head
    have hB0 : B ≠ 0 := by omega
    have hxy : x = y := by
      have h1 : (x + B * val B r) % B = x := by rw [Int.add_mul_emod_self_left]; exact Int.emod_eq_of_lt hx.1 hx.2
      have h2 : (y + B * val B s) % B = y := by rw [Int.add_mul_emod_self_left]; exact Int.emod_eq_of_lt hy.1 hy.2
      rw [← h1, e, h2]
    have hv : val B r = val B s := by
      have : B * val B r = B * val B s := by omega
      exact Int.eq_of_mul_eq_mul_left hB0 this
    rw [hxy, val_inj hB hg.tail hn.tail hg'.tail hn'.tail hv]

theorem RepN.inj {B : Int} (hB : 1 < B) {l m : List Int} {n : Nat} (h : RepN B l n) (k : RepN B m n) : l = m :=
  val_inj hB h.good h.norm k.good k.norm (by rw [h.val, k.val])

/-- Zeros at the end are left out. -/
theorem val_take_zeros {B : Int} (l : List Int) (k : Nat) (h : ∀ j, k ≤ j → j < l.length → l[j]?.getD 0 = 0) : val B (l.take k) = val B l := by
  induction l generalizing k with
  | nil => simp
  | cons x r ih =>
    cases k with
    | zero =>
      have hx : x = 0 := by simpa using h 0 (Nat.le_refl _) (by simp)
      have hr := ih 0 (fun j _ hj => by simpa using h (j + 1) (by omega) (by simpa using hj))
      rw [List.take_zero] at hr ⊢
      rw [val_cons, ← hr, hx, val_nil]; simp
    | succ k =>
      rw [List.take_succ_cons, val_cons, val_cons, ih k (fun j hk hj => by simpa using h (j + 1) (by omega) (by simpa using hj))]

theorem norm_take {l : List Int} {k : Nat} (hk : k ≤ l.length) (h : k = 0 ∨ l[k - 1]?.getD 0 ≠ 0) : Nrm (l.take k) := by
  rcases h with h | h
  · subst h; simp [Nrm]
  · rcases Nat.eq_zero_or_pos k with e | e
    · subst e; simp [Nrm]
    · unfold Nrm
      rw [List.getLast?_take, if_neg (by omega)]
      rw [List.getElem?_eq_getElem (by omega)] at h ⊢
      simpa using h

theorem rep_trim {B : Int} {l : List Int} {n : Nat} (hg : Dgs B l) (hv : val B l = (n : Int)) {k : Nat} (hk : k ≤ l.length) (h1 : ∀ j, k ≤ j → j < l.length → l[j]?.getD 0 = 0) (h2 : k = 0 ∨ l[k - 1]?.getD 0 ≠ 0) : RepN B (l.take k) n :=
  ⟨hg.take k, norm_take hk h2, by rw [val_take_zeros l k h1, hv]⟩

/-! ### Comparing -/

theorem val_split {B : Int} (l : List Int) (k : Nat) (hk : k ≤ l.length) : val B l = val B (l.take k) + B ^ k * val B (l.drop k) := by
  rw [show val B l = val B (l.take k ++ l.drop k) by rw [List.take_append_drop], val_append, List.length_take, Nat.min_eq_left hk]

theorem drop_cons {l : List Int} {k : Nat} (hk : k < l.length) : l.drop k = l[k]?.getD 0 :: l.drop (k + 1) := by
  rw [List.getElem?_eq_getElem hk]; exact List.drop_eq_getElem_cons hk

theorem lt_of_length {B : Int} (hB : 1 < B) {l m : List Int} {a b : Nat} (h : RepN B l a) (k : RepN B m b) (hl : l.length < m.length) : a < b := by
  have h1 := (val_bounds (by omega) h.good).2
  have h2 := val_lower hB k.good k.norm (by intro e; rw [e] at hl; simp at hl)
  have h3 : B ^ l.length ≤ B ^ (m.length - 1) := pow_mono (by omega) (by omega)
  rw [h.val] at h1; rw [k.val] at h2; omega

theorem lt_of_differ {B : Int} (hB : 1 < B) {l m : List Int} {a b : Nat} (h : RepN B l a) (h' : RepN B m b) (hl : l.length = m.length) {k : Nat} (hk : k < l.length)
    (hd : l.drop (k + 1) = m.drop (k + 1)) (hlt : l[k]?.getD 0 < m[k]?.getD 0) : a < b := by
  have e1 := val_split (B := B) l k (by omega)
  have e2 := val_split (B := B) m k (by omega)
  rw [drop_cons hk, val_cons] at e1
  rw [drop_cons (by omega), val_cons, ← hd] at e2
  have b1 := val_bounds (show 0 < B by omega) (h.good.take k)
  have b2 := val_bounds (show 0 < B by omega) (h'.good.take k)
  rw [List.length_take, Nat.min_eq_left (by omega)] at b1
  have hp := pow_pos (show 0 < B by omega) k
  rw [h.val] at e1; rw [h'.val] at e2
  have h3 : B ^ k * (l[k]?.getD 0 + 1) ≤ B ^ k * (m[k]?.getD 0) := Int.mul_le_mul_of_nonneg_left (by omega) (by omega)
  rw [Int.mul_add] at e1 e2
  rw [Int.mul_add, Int.mul_one] at h3
  omega

/-! ### Sums of digits -/

/-- The value of the digits F 0 .. F (n - 1), whatever integers they are. -/
def sumTo (B : Int) (F : Nat → Int) : Nat → Int
  | 0 => 0
  | n + 1 => sumTo B F n + B ^ n * F n

theorem sumTo_add (B : Int) (F G : Nat → Int) (n : Nat) : sumTo B (fun i => F i + G i) n = sumTo B F n + sumTo B G n := by
  induction n with
  | zero => rfl
  | succ n ih => simp only [sumTo, ih]; grind
theorem sumTo_sub (B : Int) (F G : Nat → Int) (n : Nat) : sumTo B (fun i => F i - G i) n = sumTo B F n - sumTo B G n := by
  induction n with
  | zero => rfl
  | succ n ih => simp only [sumTo, ih]; grind
theorem sumTo_mul (B k : Int) (F : Nat → Int) (n : Nat) : sumTo B (fun i => F i * k) n = sumTo B F n * k := by
  induction n with
  | zero => simp [sumTo]
  | succ n ih => simp only [sumTo, ih]; grind

theorem take_snoc {l : List Int} {n : Nat} (h : n < l.length) : l.take (n + 1) = l.take n ++ [l[n]?.getD 0] := by
  rw [List.take_succ_eq_append_getElem h, List.getElem?_eq_getElem h]; rfl

theorem sumTo_list (B : Int) (l : List Int) (n : Nat) (hn : n ≤ l.length) : sumTo B (fun i => l[i]?.getD 0) n = val B (l.take n) := by
  induction n with
  | zero => simp [sumTo, val_nil]
  | succ n ih =>
    simp only [sumTo]
    rw [ih (by omega), take_snoc (by omega), val_snoc, List.length_take, Nat.min_eq_left (by omega)]

theorem sumTo_all (B : Int) (l : List Int) (n : Nat) (hn : l.length ≤ n) : sumTo B (fun i => l[i]?.getD 0) n = val B l := by
  induction n with
  | zero => have : l = [] := List.length_eq_zero_iff.1 (by omega); subst this; rfl
  | succ n ih =>
    by_cases h : l.length = n + 1
    · rw [sumTo_list B l (n + 1) (by omega), ← h, List.take_length]
    · simp only [sumTo]
      rw [ih (by omega), List.getElem?_eq_none (by omega)]; simp

/-- What 'fold' does with a sum: the group that stays, and the carry. -/
def low (B s : Int) : Int := if s < 0 then s + B else if s ≥ B then s % B else s
def high (B s : Int) : Int := if s < 0 then -1 else if s ≥ B then s / B else 0

theorem low_high {B s : Int} : low B s + B * high B s = s := by
  unfold low high
  split
  · omega
  · split
    · exact Int.emod_add_mul_ediv s B
    · omega
theorem low_bounds {B s : Int} (hB : 0 < B) (hs : -B ≤ s) : 0 ≤ low B s ∧ low B s < B := by
  unfold low
  split
  · omega
  · split
    · exact ⟨Int.emod_nonneg _ (by omega), Int.emod_lt_of_pos _ hB⟩
    · omega

/-- One step of 'fold'. -/
theorem fold_step {B : Int} {F : Nat → Int} {out : List Int} {c : Int} {i : Nat} (hl : out.length = i) (hv : val B out + B ^ i * c = sumTo B F i) :
    val B (out ++ [low B (F i + c)]) + B ^ (i + 1) * high B (F i + c) = sumTo B F (i + 1) := by
  have h := low_high (B := B) (s := F i + c)
  rw [val_snoc, hl, Int.pow_succ]
  simp only [sumTo]
  rw [← hv]
  grind

/-! ### Division -/

theorem div_step {m r x d B : Int} (hm : 0 < m) (hr0 : 0 ≤ r) (hr : r < m) (hx0 : 0 ≤ x) (hx : x < B) (hB : 0 < B) (hd : d = (x + B * r) / m) :
    0 ≤ d ∧ d < B ∧ 0 ≤ x + B * r - d * m ∧ x + B * r - d * m < m := by
  have h0 : 0 ≤ x + B * r := by have := Int.mul_nonneg (show 0 ≤ B by omega) hr0; omega
  have h1 : x + B * r < B * m := by
    have := Int.mul_le_mul_of_nonneg_left (show r + 1 ≤ m by omega) (show 0 ≤ B by omega)
    rw [Int.mul_add] at this; omega
  subst hd
  refine ⟨Int.ediv_nonneg h0 (by omega), Int.ediv_lt_of_lt_mul hm h1, ?_, ?_⟩
  · have := Int.ediv_mul_le (x + B * r) (show m ≠ 0 by omega); omega
  · have := Int.lt_ediv_add_one_mul_self (x + B * r) hm; rw [Int.add_mul] at this; omega

end Go.Proofs.Dt
