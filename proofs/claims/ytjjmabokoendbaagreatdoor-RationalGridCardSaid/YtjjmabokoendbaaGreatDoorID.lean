/- Plain: what Atoi makes of a valid integer.
'isValid': which strings are integers.
'parse': the number that a valid integer is.
'both': two numbers, if both strings are valid. */ -/
import Derived.Test.YtjjmabokoendbaaGreatDoorPA
import Derived.Lib.AtoiAll
import Derived.Test.YtjjmabokoendbaaGreatDoorIA
import Derived.Test.YtjjmabokoendbaaGreatDoorShelf
import Derived.Shelf.Strings.SlTrimAscii
import Derived.Test.YtjjmabokoendbaaGreatDoorIB
import Derived.Lib.AtoiErrMem
namespace Go.Proofs.Dt
open Go.Lib (parseUint10 parseMag atoiAll NumEnd)

theorem dvalFrom_ge (l : List UInt8) (acc : Nat) : acc ≤ dvalFrom acc l := by
  rw [dvalFrom_eq]
  have : acc * 1 ≤ acc * 10 ^ l.length := Nat.mul_le_mul_left _ (Nat.pow_pos (by decide))
  omega

theorem parseUint10_dig : ∀ (l : List UInt8) (acc : Nat), l.all isDig = true → acc < 18446744073709551616 →
    parseUint10 acc l = if dvalFrom acc l < 18446744073709551616 then .ok (dvalFrom acc l) else .range
  | [], acc, _, ha => by rw [dvalFrom_nil, if_pos ha]; rfl
  | c :: r, acc, h, ha => by
    rw [List.all_cons, Bool.and_eq_true, isDig_iff] at h
    rw [dvalFrom_cons]
    simp only [parseUint10]
    rw [if_pos h.1]
    have e : acc * 10 + (c.toNat - 48) = 10 * acc + (c.toNat - 48) := by omega
    have hge := dvalFrom_ge r (10 * acc + (c.toNat - 48))
    by_cases h1 : 1844674407370955162 ≤ acc
    · rw [if_pos h1, if_neg (by omega)]
    · rw [if_neg h1, e]
      by_cases h2 : 18446744073709551616 ≤ 10 * acc + (c.toNat - 48)
      · rw [if_pos h2, if_neg (by omega)]
      · rw [if_neg h2]
        exact parseUint10_dig r _ h.2 (by omega)

theorem parseMag_dig {l : List UInt8} (hne : l ≠ []) (h : l.all isDig = true) : parseMag l = if dval l < 18446744073709551616 then .ok (dval l) else .range := by
  unfold parseMag dval
  rw [if_neg hne]
  exact parseUint10_dig l 0 h (by decide)

theorem atoiAll_dig {l : List UInt8} (hne : l ≠ []) (h : l.all isDig = true) : atoiAll l = if dval l ≤ 9223372036854775807 then .ok (dval l : Int) else .range := by
  have hm := parseMag_dig hne h
  cases l with
  | nil => exact absurd rfl hne
  | cons c r =>
    rw [List.all_cons, Bool.and_eq_true, isDig_iff] at h
    unfold atoiAll
    simp only
    rw [if_neg (by omega), hm]
    generalize dval (c :: r) = v
    by_cases h1 : v < 18446744073709551616
    · rw [if_pos h1]
      by_cases h2 : v ≤ 9223372036854775807
      · simp only
        rw [if_neg (by omega), if_neg (by omega), if_pos h2, if_neg (by omega)]
      · simp only
        rw [if_pos (by omega), if_neg h2]
    · rw [if_neg h1, if_neg (by omega)]

theorem atoiAll_neg {l : List UInt8} (hne : l ≠ []) (h : l.all isDig = true) : atoiAll (45 :: l) = if dval l ≤ 9223372036854775808 then .ok (-(dval l : Int)) else .range := by
  have hm := parseMag_dig hne h
  unfold atoiAll
  simp only
  rw [if_pos (by decide), hm]
  generalize dval l = v
  by_cases h1 : v < 18446744073709551616
  · rw [if_pos h1]
    by_cases h2 : v ≤ 9223372036854775808
    · simp only
      rw [if_neg (fun h => h.1 rfl), if_neg (by omega), if_pos h2]
      exact congrArg NumEnd.ok (if_pos rfl)
    · simp only
      rw [if_neg (fun h => h.1 rfl), if_pos ⟨rfl, by omega⟩, if_neg h2]
  · rw [if_neg h1, if_neg (by omega)]

theorem valid_parts {s : List UInt8} (h : valid s = true) : body s ≠ [] ∧ (body s).length ≤ 200 ∧ (body s).all isDig = true ∧ (s = [48] ∨ (body s).head? ≠ some 48) := by
  unfold valid at h
  simp only [Bool.and_eq_true, Bool.not_eq_true', decide_eq_true_eq, Bool.or_eq_true] at h
  obtain ⟨⟨⟨h1, h2⟩, h3⟩, h4⟩ := h
  exact ⟨by rwa [List.isEmpty_eq_false_iff] at h1, h2, h3, h4⟩

theorem atoiAll_valid {s : List UInt8} (h : valid s = true) : atoiAll s = if -9223372036854775808 ≤ num s ∧ num s ≤ 9223372036854775807 then .ok (num s) else .range := by
  obtain ⟨h1, _, h3, _⟩ := valid_parts h
  unfold num
  by_cases hs : s.head? = some 45
  · rw [if_pos hs]
    have e : s = 45 :: body s := by
      unfold body
      rw [if_pos hs]
      cases s with
      | nil => cases hs
      | cons c r => simp at hs; simp [hs]
    rw [e, atoiAll_neg h1 h3, ← e]
    generalize dval (body s) = v
    by_cases h2 : v ≤ 9223372036854775808
    · rw [if_pos h2, if_pos (by omega)]
    · rw [if_neg h2, if_neg (by omega)]
  · rw [if_neg hs]
    have e : body s = s := by unfold body; rw [if_neg hs]
    rw [e] at h1 h3 ⊢
    rw [atoiAll_dig h1 h3]
    generalize dval s = v
    by_cases h2 : v ≤ 9223372036854775807
    · rw [if_pos h2, if_pos (by omega)]
    · rw [if_neg h2, if_neg (by omega)]

/-- A valid integer with a '-' in front is less than 0. -/
theorem num_sign {s : List UInt8} (h : valid s = true) : num s < 0 ↔ s.head? = some 45 := by
  obtain ⟨h1, _, h3, h4⟩ := valid_parts h
  unfold num
  by_cases hs : s.head? = some 45
  · rw [if_pos hs]
    refine ⟨fun _ => hs, fun _ => ?_⟩
    have h5 : (body s).head? ≠ some 48 := by
      rcases h4 with e | e
      · rw [e] at hs; simp at hs
      · exact e
    have e := decDigits_dval (body s) h1 h3 h5
    have : dval (body s) ≠ 0 := by
      intro h0
      rw [h0, decDigits_lt (by decide)] at e
      rw [← e] at h5
      exact h5 rfl
    omega
  · rw [if_neg hs]
    exact ⟨fun h => by omega, fun h => absurd h hs⟩

theorem num_abs (s : List UInt8) : (num s).natAbs = dval (body s) := by
  unfold num; split <;> omega

theorem body_shorter (s : List UInt8) : (body s).length < s.length ↔ s.head? = some 45 := by
  unfold body
  split
  · rename_i h
    cases s with
    | nil => cases h
    | cons c r => simp [h]
  · rename_i h
    simp [h]

end Go.Proofs.Dt

namespace Go.Proofs.Tryz
open Go.RowKit Go.Shelf Go.Proofs.Dt

theorem trimPrefix_body (s : List UInt8) : Lib.trimPrefix s [45] = body s := by
  unfold Lib.trimPrefix Lib.hasPrefix body
  cases s with
  | nil => rfl
  | cons c r =>
    by_cases h : c = 45
    · subst h; simp
    · have h' : ¬ (45 = c) := fun e => h e.symm
      simp [h, h']

theorem isDig_mem (c : UInt8) : ([48, 49, 50, 51, 52, 53, 54, 55, 56, 57] : List UInt8).contains c = isDig c := by
  have key : ∀ v : Fin 256, ([48, 49, 50, 51, 52, 53, 54, 55, 56, 57] : List UInt8).contains (UInt8.ofNat v.val) = isDig (UInt8.ofNat v.val) := by decide +kernel
  have := key ⟨c.toNat, c.toNat_lt⟩
  simpa using this

theorem dropWhile_nil {α : Type} (p : α → Bool) (l : List α) : l.dropWhile p = [] ↔ l.all p = true := by
  induction l with
  | nil => simp
  | cons c r ih =>
    by_cases h : p c = true
    · simp [h, ih]
    · simp [h]

theorem trimS_nil (l : List UInt8) : Lib.trimS l [48, 49, 50, 51, 52, 53, 54, 55, 56, 57] = [] ↔ l.all isDig = true := by
  have e : (fun c => ([48, 49, 50, 51, 52, 53, 54, 55, 56, 57] : List UInt8).contains c) = isDig := funext isDig_mem
  unfold Lib.trimS Lib.trimLeftS Lib.trimRightS
  rw [e, dropWhile_nil]
  constructor
  · intro h
    by_cases hd : l.reverse.dropWhile isDig = []
    · have := (dropWhile_nil isDig l.reverse).1 hd
      simpa using this
    · exfalso
      obtain ⟨c, r, hc⟩ := List.exists_cons_of_ne_nil hd
      have h1 := List.head_dropWhile_not isDig hd
      have h2 : (l.reverse.dropWhile isDig).all isDig = true := by simpa using h
      have h3 := List.all_eq_true.1 h2 _ (List.head_mem hd)
      rw [h1] at h3
      exact absurd h3 (by simp)
  · intro h
    rw [(dropWhile_nil isDig l.reverse).2 (by simpa using h)]
    rfl

set_option maxHeartbeats 2000000 in
set_option maxRecDepth 100000 in
theorem isValid_any (s : ByteArray) (w : World) : Calls Tryz.prog 90 #[.string s] w fun e w' => e = .returned (.bool (valid s.data.toList)) ∧ Below w.heap.size w w' := by
  have hP := fun w => Tryz.strings_TrimPrefix s ⟨#[45]⟩ w
  obtain ⟨d, hd⟩ : ∃ d : ByteArray, d = ⟨(Lib.trimPrefix s.data.toList [45]).toArray⟩ := ⟨_, rfl⟩
  have hP' : ∀ w, Calls Tryz.prog 118 #[.string s, .string ⟨#[45]⟩] w fun e w' => e = .returned (.string d) ∧ w' = w := by rw [hd]; exact hP
  have hdb : d.data.toList = body s.data.toList := by rw [hd, trimPrefix_body]
  clear hd hP
  have hcT := fun w h => Any.strings_Trim_laid Tryz.lays160 (by kernel_rfl) d ⟨#[48, 49, 50, 51, 52, 53, 54, 55, 56, 57]⟩ w h (by decide) (ascii_of_all (by decide))
  obtain ⟨t, ht⟩ : ∃ t : ByteArray, t = ⟨(Lib.trimS d.data.toList [48, 49, 50, 51, 52, 53, 54, 55, 56, 57]).toArray⟩ := ⟨_, rfl⟩
  have hcT' : ∀ w, d.size ≤ 9223372036854775807 → Calls Tryz.prog 119 #[.string d, .string ⟨#[48, 49, 50, 51, 52, 53, 54, 55, 56, 57]⟩] w fun e w' => e = .returned (.string t) ∧ Below w.heap.size w w' := by
    rw [ht]; exact hcT
  have htb : t.data.toList = Lib.trimS (body s.data.toList) [48, 49, 50, 51, 52, 53, 54, 55, 56, 57] := by rw [ht, hdb]
  clear ht hcT
  have hlen : d.size = (body s.data.toList).length := by rw [← hdb]; exact Lib.size_eq d
  go_enter Tryz.func90, Tryz.ntmps90
  by_cases h1 : d.toList.isEmpty = true
  · have e1 : (body s.data.toList).isEmpty = true := by rw [← hdb, ← ByteArray.toList_eq]; exact h1
    go_wp2_with (go_at_call 118; refine (hP' _).mono ?_; rintro e w' ⟨rfl, rfl⟩)
    go_ret
    exact ⟨congrArg (fun b => Ending.returned (.bool b)) (show false = _ by unfold valid; rw [e1]; rfl), Below.refl _ _⟩
  · rw [Bool.not_eq_true] at h1
    have e1 : (body s.data.toList).isEmpty = false := by rw [← hdb, ← ByteArray.toList_eq]; exact h1
    by_cases h2 : 200 < (d.size : Int)
    · have e2 : decide ((body s.data.toList).length ≤ 200) = false := decide_eq_false (by omega)
      go_wp2_with (go_at_call 118; refine (hP' _).mono ?_; rintro e w' ⟨rfl, rfl⟩)
      go_ret
      exact ⟨congrArg (fun b => Ending.returned (.bool b)) (show false = _ by unfold valid; rw [e1, e2]; rfl), Below.refl _ _⟩
    · have e2 : decide ((body s.data.toList).length ≤ 200) = true := decide_eq_true (by omega)
      have h5 : 0 < d.size := by
        rcases Nat.eq_zero_or_pos d.size with e | e
        · rw [List.isEmpty_eq_false_iff] at e1
          exact absurd (List.eq_nil_of_length_eq_zero (by omega)) e1
        · exact e
      by_cases h3 : t.toList.isEmpty = true
      · have e3 : (body s.data.toList).all isDig = true := by rw [ByteArray.toList_eq, htb, List.isEmpty_iff] at h3; exact (trimS_nil _).1 h3
        by_cases h4 : (s.toList == [48]) = true
        · have e4 : decide (s.data.toList = [48]) = true := by rw [ByteArray.toList_eq] at h4; exact decide_eq_true (by simpa using h4)
          go_wp2_with (first | (go_at_call 118; refine (hP' _).mono ?_; rintro e w' ⟨rfl, rfl⟩) | (go_at_call 119; refine (hcT' _ (by omega)).mono ?_; rintro e w2 ⟨rfl, hb2⟩))
          go_ret
          exact ⟨congrArg (fun b => Ending.returned (.bool b)) (show true = _ by unfold valid; rw [e1, e2, e3, e4]; rfl), hb2⟩
        · rw [Bool.not_eq_true] at h4
          have e4 : decide (s.data.toList = [48]) = false := by rw [ByteArray.toList_eq] at h4; exact decide_eq_false (by simpa using h4)
          have e5 : ((((d[0]'h5).toNat : Int)) != 48) = decide ((body s.data.toList).head? ≠ some 48) := by
            have hh : (body s.data.toList).head? = some (d[0]'h5) := by
              rw [← hdb, List.head?_eq_getElem?, Array.getElem?_toList]
              exact Array.getElem?_eq_getElem h5
            rw [hh]
            generalize d[0]'h5 = c
            by_cases hc : c = 48
            · subst hc; rfl
            · have h6 : ¬ ((c.toNat : Int) = 48) := fun e => hc (UInt8.toNat_inj.1 (by show c.toNat = 48; omega))
              rw [decide_eq_true (by intro e; exact hc (Option.some.inj e)), bne_iff_ne.2 h6]
          have E5 := Lib.hid e5
          clear e5
          go_wp2_with (first | (go_at_call 118; refine (hP' _).mono ?_; rintro e w' ⟨rfl, rfl⟩) | (go_at_call 119; refine (hcT' _ (by omega)).mono ?_; rintro e w2 ⟨rfl, hb2⟩))
          go_ret
          exact ⟨congrArg (fun b => Ending.returned (.bool b)) (E5.out.trans (by unfold valid; rw [e1, e2, e3, e4]; rfl)), hb2⟩
      · rw [Bool.not_eq_true] at h3
        have e3 : (body s.data.toList).all isDig = false := by
          rw [ByteArray.toList_eq, htb] at h3
          cases h : (body s.data.toList).all isDig with
          | false => rfl
          | true => rw [(trimS_nil _).2 h] at h3; cases h3
        go_wp2_with (first | (go_at_call 118; refine (hP' _).mono ?_; rintro e w' ⟨rfl, rfl⟩) | (go_at_call 119; refine (hcT' _ (by omega)).mono ?_; rintro e w2 ⟨rfl, hb2⟩))
        go_ret
        exact ⟨congrArg (fun b => Ending.returned (.bool b)) (show false = _ by unfold valid; rw [e1, e2, e3]; rfl), hb2⟩

end Go.Proofs.Tryz

namespace Go.Proofs.Tryz
open Go.RowKit Go.Shelf Go.Proofs.Dt

/-- The value v of type signed is the number n (a zero may be negative). -/
def Sgd (W : World) (v : Value) (n : Int) : Prop := ∃ neg r m, v = .agg #[.bool neg, r] ∧ Num W r m ∧ n = (if neg then -(m : Int) else m) ∧ (neg = true → (m : Int) ≠ 0 ∨ True)

/-- What 'parse' returns: no negative zero. -/
def Par (W : World) (v : Value) (n : Int) : Prop := ∃ r, v = .agg #[.bool (decide (n < 0)), r] ∧ Num W r n.natAbs

theorem Par.below {W W' : World} {v : Value} {n : Int} (h : Par W v n) {k : Nat} (hk : W.heap.size ≤ k) (hb : Below k W W') : Par W' v n :=
  let ⟨r, h1, h2⟩ := h; ⟨r, h1, h2.below hk hb⟩

/-- Between two rounds of the loop of 'parse': f bytes of the digits are left; b is x's block. -/
structure ParInv (D : List UInt8) (neg : Bool) (w : World) (b : Nat) (f : Nat) (W : World) (v : Value) (xs : List Int) : Prop where
  hf : f ≤ D.length
  own : W.ownsRow w.heap.size 3 1 v xs.length (xs.map (Value.int .i64))
  box : W.heap[b]? = some (.cells #[.bool neg, v] 91 (0, 0))
  hb : w.heap.size < b
  res : W.heap[w.heap.size]? = some (.cells #[.bool false, .slice none 0 0] 91 (0, 0))
  ne : v.ownBlock ≠ some b
  len : f = 0 ∨ D.length - f = 4 * xs.length
  le : xs.length ≤ D.length - f
  val : val 10000 xs = (dval (D.drop f) : Int)
  dgs : Dgs 10000 xs
  below : Below w.heap.size w W

theorem away_ne {b : Nat} {v : Value} (h : v.ownBlock ≠ some b) : Away b v := fun a l c e => by
  rw [e] at h
  intro e2
  exact h (by simp [Value.ownBlock, e2])

theorem Num.cellAway {W : World} {v : Value} {n b j : Nat} {u : Value} (h : Num W v n) (ha : Away b v) : Num (W.setCell ⟨b, j, none⟩ u) v n := by
  obtain ⟨xs, h, hr⟩ := h
  refine ⟨xs, ?_, hr⟩
  rcases h with h | ⟨c, off, cap, hv, hc, hlt, hcell⟩
  · exact .inl h
  · exact .inr ⟨c, off, cap, hv, hc, by simpa [World.setCell] using hlt, fun k hk => (World.cell?_of_block (w := W) (Below.heap_setCell _ _ _ _ (ha _ _ _ hv))).trans (hcell k hk)⟩

def strLen : Value → Nat | .string s => s.size | _ => 0

theorem ParInv.start (D : List UInt8) (neg : Bool) (w : World) : ParInv D neg w (w.heap.size + 1) D.length ((w.alloc (.cells #[.bool false, .slice none 0 0] 91)).alloc (.cells #[.bool neg, .slice none 0 0] 91)) (.slice none 0 0) [] :=
  ⟨Nat.le_refl _, World.ownsRow_nil _ _ _ _, (by simpa using heap_alloc_new (w.alloc (.cells #[.bool false, .slice none 0 0] 91)) (.cells #[.bool neg, .slice none 0 0] 91)), by omega, (Lib.alloc_old _ _ _ (by simp)).trans (heap_alloc_new w _), by simp [Value.ownBlock], .inr (by simp), by simp, by rw [List.drop_length]; rfl, Dgs.nil _, ((Below.refl _ w).alloc (Nat.le_refl _) _).alloc (by simp) _⟩

theorem ownsRow_below {W W' : World} {base : Nat} {e : TypeId} {size : Nat} {v : Value} {n : Nat} {xs : List Value} (h : W.ownsRow base e size v n xs) (hb : Below W.heap.size W W') : W'.ownsRow base e size v n xs :=
  h.kept (row := none) ⟨hb.os, hb.tape, hb.output, hb.size, fun k hk _ => hb.block k hk⟩ (by cases v.ownBlock <;> simp)

theorem own_ne {W : World} {base : Nat} {e T : TypeId} {v : Value} {n b : Nat} {xs : List Value} {cs : Array Value} {fr : Nat × Nat} (hown : W.ownsRow base e 1 v n xs) (hb : W.heap[b]? = some (.cells cs T fr)) (hTe : T ≠ e) : v.ownBlock ≠ some b := by
  rcases hown.2 with ⟨rfl, _⟩ | ⟨g, cap, cur, rfl, _, hg, _⟩
  · simp [Value.ownBlock]
  · simp only [Value.ownBlock]
    intro e1
    cases e1
    rw [hb] at hg
    cases hg
    exact hTe rfl

theorem ParInv.next {D : List UInt8} {neg : Bool} {w W w1 w2 : World} {b f g : Nat} {v v' : Value} {xs : List Int} {x : Int} {o : Obj} (h : ParInv D neg w b f W v xs) (hb1 : Below W.heap.size W w1)
    (hown : w2.ownsRow w.heap.size 3 1 v' (xs.length + 1) (xs.map (Value.int .i64) ++ [.int .i64 x])) (hgrow : (w1.alloc o).grownBy w2 v.ownBlock) (hx : x = (dval ((D.drop g).take (f - g)) : Int)) (h0 : 0 < f) (hg : g = f - 4) (hd : D.all isDig = true) :
    ParInv D neg w b g (w2.setCell ⟨b, 1, none⟩ v') v' (xs ++ [x]) := by
  have hlt := (Array.getElem?_eq_some_iff.1 h.box).1
  have s1 := hb1.size
  have s2 := h.below.size
  have hbox1 : (w1.alloc o).heap[b]? = some (.cells #[.bool neg, v] 91 (0, 0)) := (Lib.alloc_old w1 o b (by omega)).trans ((hb1.block b hlt).trans h.box)
  have hbox2 : w2.heap[b]? = some (.cells #[.bool neg, v] 91 (0, 0)) := by
    rw [hgrow.block b (by simp; omega) (fun e => h.ne e.symm)]
    exact hbox1
  have hne := own_ne hown hbox2 (by decide)
  have hfl := h.hf
  have hk : D.length - f = 4 * xs.length := by rcases h.len with e | e <;> omega
  have hdg := all_take (all_drop hd g) (f - g)
  have hdl : ((D.drop g).take (f - g)).length ≤ 4 := by rw [List.length_take]; omega
  have hx4 := dval4_lt hdg hdl
  have hle := h.le
  have hlr := (Array.getElem?_eq_some_iff.1 h.res).1
  have hres1 : (w1.alloc o).heap[w.heap.size]? = some (.cells #[.bool false, .slice none 0 0] 91 (0, 0)) := (Lib.alloc_old w1 o _ (by omega)).trans ((hb1.block _ hlr).trans h.res)
  have hres2 : w2.heap[w.heap.size]? = some (.cells #[.bool false, .slice none 0 0] 91 (0, 0)) := (hgrow.block _ (by simp; omega) (fun e => own_ne h.own h.res (by decide) e.symm)).trans hres1
  have hbb := h.hb
  refine ⟨by omega, ?_, ?_, h.hb, (Below.heap_setCell _ _ _ _ (by show w.heap.size ≠ b; omega)).trans hres2, hne, by simp only [List.length_append, List.length_cons, List.length_nil]; omega, by simp only [List.length_append, List.length_cons, List.length_nil]; omega, ?_, ?_, ?_⟩
  · rw [List.length_append, List.map_append]
    exact hown.kept (row := some b) ⟨rfl, rfl, rfl, by simp [World.setCell], fun k _ hk => Below.heap_setCell _ _ _ _ (fun e => hk (by simp [e]))⟩ (Or.inr hne)
  · simp [World.setCell, Array.getElem?_modify, hbox2]
  · rw [hx]
    exact parse_step (by omega) hk h.val
  · rw [hx]
    exact h.dgs.append (Dgs.one (Int.natCast_nonneg _) hx4)
  · exact (((h.below.trans (hb1.mono s2)).alloc (by omega) o).grown hgrow (by simp; omega) (fun k hk => (h.own.lt k hk).1)).setCell (p := ⟨b, 1, none⟩) (Nat.le_of_lt h.hb) _

theorem atoi4 (s : ByteArray) (hne : s.data.toList ≠ []) (hd : s.data.toList.all isDig = true) (hl : s.data.toList.length ≤ 4) (w : World) :
    Calls Tryz.prog 121 #[.string s] w fun e w' => e = .returned (.tuple #[.int .i64 (dval s.data.toList : Int), .nilIface]) ∧ Below w.heap.size w w' := by
  have h4 := dval4_lt hd hl
  refine (Tryz.strconv_Atoi_ok s (by rw [Lib.size_eq]; omega) _ (by rw [atoiAll_dig hne hd, if_pos (by omega)]) w).mono ?_
  rintro e w' ⟨rfl, rfl | ⟨t, rfl⟩⟩
  · exact ⟨rfl, Below.refl _ _⟩
  · exact ⟨rfl, Lib.bytesWorld_below w _ _⟩

set_option maxHeartbeats 2000000 in
set_option maxRecDepth 100000 in
theorem parse_any (s : ByteArray) (w : World) (hv : valid s.data.toList = true) :
    Calls Tryz.prog 99 #[.string s] w fun e w' => ∃ v, e = .returned v ∧ Par w' v (num s.data.toList) ∧ Below w.heap.size w w' := by
  obtain ⟨hD1, hD2, hD3, hD4⟩ := valid_parts hv
  have hP := fun w => Tryz.strings_TrimPrefix s ⟨#[45]⟩ w
  obtain ⟨d, hd⟩ : ∃ d : ByteArray, d = ⟨(Lib.trimPrefix s.data.toList [45]).toArray⟩ := ⟨_, rfl⟩
  have hP' : ∀ w, Calls Tryz.prog 118 #[.string s, .string ⟨#[45]⟩] w fun e w' => e = .returned (.string d) ∧ w' = w := by rw [hd]; exact hP
  have hdb : d.data.toList = body s.data.toList := by rw [hd, trimPrefix_body]
  clear hd hP
  obtain ⟨D, hDD⟩ : ∃ D, D = body s.data.toList := ⟨_, rfl⟩
  rw [← hDD] at hD1 hD2 hD3 hD4 hdb
  have hneg : decide ((d.size : Int) < (s.size : Int)) = decide (num s.data.toList < 0) := by
    apply decide_eq_decide.2
    rw [num_sign hv, ← body_shorter, Lib.size_eq, Lib.size_eq, hdb, hDD]
    omega
  have habs : (num s.data.toList).natAbs = dval D := by rw [num_abs, hDD]
  obtain ⟨neg, hnegd⟩ : ∃ neg, neg = decide (num s.data.toList < 0) := ⟨_, rfl⟩
  rw [← hnegd] at hneg
  obtain ⟨i0, hi, hz0, hz1, hz2⟩ := info_parts info3
  have hds : d.size = D.length := by rw [← hdb]; exact Lib.size_eq d
  have HABS := Lib.hid habs
  have HNEG := Lib.hid hnegd
  have HD3 := Lib.hid hD3
  clear habs hnegd hD4 hv hDD hD3
  go_enter Tryz.func99, Tryz.ntmps99
  go_wp2_with (go_at_call 118; refine (hP' _).mono ?_; rintro e w' ⟨rfl, rfl⟩)
  have hst := ParInv.start D neg w
  rw [← hneg, show decide ((d.size : Int) < (s.size : Int)) = decide (D.length < s.size) from decide_eq_decide.2 (by omega)] at hst
  have HS := Lib.hid hst
  have HDS := Lib.hid hds
  have HN : Hid (decide (D.length < s.size) = neg) := by rw [← hneg]; exact decide_eq_decide.2 (by omega)
  clear hst hds hneg
  go_loopw [3] (fun s3 wr => ∃ (f : Nat) (cur : ByteArray) (v : Value) (xs : List Int), s3 = .string cur ∧ cur.data.toList = D.take f ∧ Hid (ParInv D (decide (D.length < s.size)) w (w.heap.size + 1) f wr v xs)) (fun s3 _ => strLen s3)
  case atStart => exact ⟨D.length, d, _, _, rfl, by rw [hdb, List.take_length], HS⟩
  case round =>
    obtain ⟨f, cur, v, xs, rfl, hcur, HI⟩ := hrel
    have hf := HI.out.hf
    have hcs : cur.size = f := by rw [Lib.size_eq, hcur, List.length_take]; omega
    by_cases h0 : 0 < f
    · obtain ⟨g, hg⟩ : ∃ g, g = f - 4 := ⟨_, rfl⟩
      have hmax : max (0 : Int) ((f : Int) - 4) = (g : Int) := by omega
      have hgf : g ≤ f := by omega
      have hg4 : f - g ≤ 4 := by omega
      have hext : (cur.extract g f).data.toList = (D.drop g).take (f - g) := by
        rw [ByteArray.data_extract, Array.toList_extract, hcur, List.extract_eq_take_drop, List.drop_take, List.take_take]
        congr 1; omega
      have hxd := all_take (all_drop HD3.out g) (f - g)
      have hxl : ((D.drop g).take (f - g)).length = f - g := by rw [List.length_take, List.length_drop]; omega
      have hx4 := dval4_lt hxd (by omega)
      obtain ⟨x, hx⟩ : ∃ x : Int, x = (dval ((D.drop g).take (f - g)) : Int) := ⟨_, rfl⟩
      have hA : Hid (Calls Tryz.prog 121 #[.string (cur.extract g f)] wr fun e w' => e = .returned (.tuple #[.int .i64 x, .nilIface]) ∧ Below wr.heap.size wr w') := by
        have := atoi4 (cur.extract g f) (by rw [hext]; intro e; rw [e] at hxl; simp at hxl; omega) (by rw [hext]; exact hxd) (by rw [hext, hxl]; exact hg4) wr
        rw [hext, ← hx] at this
        exact this
      have hx0 : 0 ≤ x ∧ x < 10000 := by rw [hx]; exact ⟨Int.natCast_nonneg _, hx4⟩
      have HX := Lib.hid hx
      have HE := Lib.hid hext
      have HG := Lib.hid hg
      have HC := Lib.hid hcur
      have b1 := HI.out.below.size
      clear hx hext hg hcur hxd hxl hx4
      go_wp2_with fail
      refine hA.out.mono ?_
      rintro e w1 ⟨rfl, hb1⟩
      have hbox : w1.heap[w.heap.size + 1]? = some (.cells #[.bool (decide (D.length < s.size)), v] 91 (0, 0)) := (hb1.block _ (Array.getElem?_eq_some_iff.1 HI.out.box).1).trans HI.out.box
      have hc1 : w1.cell? ⟨w.heap.size + 1, 1, none⟩ = some v := by rw [Lib.cell_of_heap hbox]; rfl
      have hown1 := Lib.hid (ownsRow_below HI.out.own hb1)
      have hle := HI.out.le
      have b2 := hb1.size
      obtain ⟨av, nv, cv, rfl⟩ : ∃ av nv cv, v = .slice av nv cv := by
        rcases hown1.out.2 with ⟨h, _⟩ | ⟨_, _, _, h, _⟩ <;> exact ⟨_, _, _, h⟩
      have hlt := (Array.getElem?_eq_some_iff.1 HI.out.box).1
      go_wp2_with (at_builtin; go_must (refine wpList_append_own _ rfl _ _ 89 rfl w.heap.size 3 i0 (.int .i64 0) 1 8 Tryz.underlying89 hi hz0 hz1 hz2 rfl (by decide) _ _ _ rfl (hown1.out.alloc _) ⟨w1.heap.size, 0, none⟩ 1 1 [.int .i64 x] rfl rfl ?_ ?_ ?_ ?_ ?_ ?_); rotate_right; intro v' w2 hown' hgrow _; have HN2 := Lib.hid (HI.out.next hb1 hown' hgrow HX.out h0 HG.out HD3.out); have hbox2 : w2.heap[w.heap.size + 1]? = some (.cells #[.bool (decide (D.length < s.size)), .slice av nv cv] 91 (0, 0)) := (hgrow.block _ (by simp; omega) (fun e => HI.out.ne e.symm)).trans ((Lib.alloc_old w1 _ _ (by omega)).trans hbox); have f2 : w2.frozen? ⟨w.heap.size + 1, 1, none⟩ = false := Lib.frozen_of_heap hbox2 1; have c2 : w2.cell? ⟨w.heap.size + 1, 1, none⟩ = some (.slice av nv cv) := (by rw [Lib.cell_of_heap hbox2]; rfl); obtain ⟨av', nv', cv', rfl⟩ : ∃ av' nv' cv', v' = .slice av' nv' cv' := (by rcases hown'.2 with ⟨h, _⟩ | ⟨_, _, _, h, _⟩ <;> exact ⟨_, _, _, h⟩); clear hown' hgrow hbox hbox2 hA)
      · go_roundw
        case rel =>
          refine ⟨g, _, _, _, rfl, ?_, HN2⟩
          rw [ByteArray.data_extract, Array.toList_extract, HC.out, List.extract_eq_take_drop, List.drop_zero, List.take_take]
          congr 1; omega
        case measure => simp [strLen, ByteArray.size_extract]; omega
      · exact cell_one_new _ _ _
      · simp [Value.oneCell']
      · unfold maxLen; omega
      · omega
      · simp; omega
    · obtain rfl : f = 0 := by omega
      have hv0 := HI.out.val
      have hown1 := Lib.hid HI.out.own
      have hc1 : wr.cell? ⟨w.heap.size + 1, 1, none⟩ = some v := by rw [Lib.cell_of_heap HI.out.box]; rfl
      have hc0 : wr.cell? ⟨w.heap.size + 1, 0, none⟩ = some (.bool (decide (D.length < s.size))) := by rw [Lib.cell_of_heap HI.out.box]; rfl
      have f1 : wr.frozen? ⟨w.heap.size + 1, 1, none⟩ = false := Lib.frozen_of_heap HI.out.box 1
      have r0 : wr.cell? ⟨w.heap.size, 0, none⟩ = some (.bool false) := by rw [Lib.cell_of_heap HI.out.res]; rfl
      have r1 : wr.cell? ⟨w.heap.size, 1, none⟩ = some (.slice none 0 0) := by rw [Lib.cell_of_heap HI.out.res]; rfl
      have g0 : wr.frozen? ⟨w.heap.size, 0, none⟩ = false := Lib.frozen_of_heap HI.out.res 0
      have g1 : wr.frozen? ⟨w.heap.size, 1, none⟩ = false := Lib.frozen_of_heap HI.out.res 1
      have hle := HI.out.le
      rw [List.drop_zero] at hv0
      have HV := Lib.hid hv0
      have HC := Lib.hid hcur
      clear hv0 hcur
      go_wp2_with (go_at_call 101; go_must (refine (trimmed_any wr (by omega) (ownsRow_ints hown1.out)).mono ?_); rintro e w' ⟨r', k, rfl, hc, hi, haw2, rfl⟩; obtain ⟨ar, cr, rfl⟩ := hi.shape)
      have hfin : (((wr.setCell ⟨w.heap.size + 1, 1, none⟩ (.slice ar (min k xs.length) cr)).setCell ⟨w.heap.size, 0, none⟩ (.bool (decide (D.length < s.size)))).setCell ⟨w.heap.size, 1, none⟩ (.slice ar (min k xs.length) cr)).heap[w.heap.size]? = some (.cells #[.bool (decide (D.length < s.size)), .slice ar (min k xs.length) cr] 91 (0, 0)) := by
        simp [World.setCell, Array.getElem?_modify, HI.out.res]
      refine bodyPost_ret (results_cell_row (p := 2) (ty := 91) (by kernel_rfl) _ _ w.heap.size 91 _ (0, 0) _ rfl hfin Tryz.underlying91 rfl (by kernel_rfl)) rfl ?_
      have hn := num_of_trim HI.out.dgs HV.out hc hi
      have hne1 : v.ownBlock ≠ some w.heap.size := own_ne hown1.out HI.out.res (by decide)
      rw [List.length_take] at hn haw2
      refine ⟨_, rfl, ⟨_, by rw [HN.out, HNEG.out], ?_⟩, ?_⟩
      · rw [HABS.out]
        exact ((hn.cellAway (haw2 _ (away_ne HI.out.ne))).cellAway (haw2 _ (away_ne hne1))).cellAway (haw2 _ (away_ne hne1))
      · exact ((HI.out.below.setCell (p := ⟨w.heap.size + 1, 1, none⟩) (by show w.heap.size ≤ w.heap.size + 1; omega) _).setCell (p := ⟨w.heap.size, 0, none⟩) (Nat.le_refl _) _).setCell (p := ⟨w.heap.size, 1, none⟩) (Nat.le_refl _) _

end Go.Proofs.Tryz

namespace Go.Proofs.Tryz
open Go.RowKit Go.Shelf Go.Proofs.Dt

theorem results_rows_tmp {fn : Func} {p q u : Tmp} (h : fn.results = #[.cell p 91, .cell q 91, .tmp u]) (tmps : Array Value) (w : World) (g k : Nat) (t : TypeId) (c1 c2 d1 d2 : Value) (fr fr' : Nat × Nat)
    (hp : tmps.getD p undef = .pointer (some ⟨g, 0, none⟩)) (hq : tmps.getD q undef = .pointer (some ⟨k, 0, none⟩)) (hg : w.heap[g]? = some (.cells #[c1, c2] t fr)) (hk : w.heap[k]? = some (.cells #[d1, d2] t fr')) :
    (results fn tmps).run Tryz.prog w = .ok (.tuple #[.agg #[c1, c2], .agg #[d1, d2], tmps.getD u undef]) w := by
  have hp' : tmps[p]?.getD undef = .pointer (some ⟨g, 0, none⟩) := by simpa using hp
  have hq' : tmps[q]?.getD undef = .pointer (some ⟨k, 0, none⟩) := by simpa using hq
  have e1 := run_loadVar_row (P := Tryz.prog) w g t 91 #[c1, c2] fr _ hg Tryz.underlying91 rfl (by kernel_rfl)
  have e2 := run_loadVar_row (P := Tryz.prog) w k t 91 #[d1, d2] fr' _ hk Tryz.underlying91 rfl (by kernel_rfl)
  simp [results, h, hp', hq', asAddr, e1, e2]

/-- What 'both' returns. -/
def BothPost (s t : ByteArray) (w : World) (e : Ending) (w' : World) : Prop :=
  (valid s.data.toList = true ∧ valid t.data.toList = true ∧ ∃ x y, e = .returned (.tuple #[x, y, .bool true]) ∧ Par w' x (num s.data.toList) ∧ Par w' y (num t.data.toList) ∧ Below w.heap.size w w') ∨
  ((valid s.data.toList && valid t.data.toList) = false ∧ e = .returned (.tuple #[.agg #[.bool false, .slice none 0 0], .agg #[.bool false, .slice none 0 0], .bool false]) ∧ Below w.heap.size w w')

theorem Num.setNot {W : World} {v c : Value} {n b j : Nat} (h : Num W v n) (hc : W.cell? ⟨b, j, none⟩ = some c) (hn : ∀ i, c ≠ .int .i64 i) (u : Value) : Num (W.setCell ⟨b, j, none⟩ u) v n := by
  obtain ⟨xs, h, hr⟩ := h
  refine ⟨xs, ?_, hr⟩
  rcases h with h | ⟨g, off, cap, hv, hcap, hlt, hcell⟩
  · exact .inl h
  · refine .inr ⟨g, off, cap, hv, hcap, by simpa [World.setCell] using hlt, fun k hk => ?_⟩
    refine (World.cell?_setCell_other _ _ _ _ (fun e => ?_)).trans (hcell k hk)
    have := hcell k hk
    rw [← e, hc] at this
    exact hn _ (Option.some.inj this)

/-- Two result variables of type signed lie at the start of what the call laid. -/
structure Two (w W : World) (a b c d : Value) : Prop where
  k0 : W.heap[w.heap.size]? = some (.cells #[a, b] 91 (0, 0))
  k1 : W.heap[w.heap.size + 1]? = some (.cells #[c, d] 91 (0, 0))
  below : Below w.heap.size w W

section
variable {w W W' : World} {a b c d : Value}
theorem Two.start (w : World) (a b c d : Value) : Two w ((w.alloc (.cells #[a, b] 91)).alloc (.cells #[c, d] 91)) a b c d :=
  ⟨(Lib.alloc_old _ _ _ (by simp)).trans (heap_alloc_new w _), by simpa using heap_alloc_new (w.alloc (.cells #[a, b] 91)) (.cells #[c, d] 91), ((Below.refl _ w).alloc (Nat.le_refl _) _).alloc (by simp) _⟩
theorem Two.next (h : Two w W a b c d) (hb : Below W.heap.size W W') : Two w W' a b c d :=
  ⟨(hb.block _ (Array.getElem?_eq_some_iff.1 h.k0).1).trans h.k0, (hb.block _ (Array.getElem?_eq_some_iff.1 h.k1).1).trans h.k1, h.below.trans (hb.mono h.below.size)⟩
theorem Two.c00 (h : Two w W a b c d) : W.cell? ⟨w.heap.size, 0, none⟩ = some a := by rw [Lib.cell_of_heap h.k0]; rfl
theorem Two.c01 (h : Two w W a b c d) : W.cell? ⟨w.heap.size, 1, none⟩ = some b := by rw [Lib.cell_of_heap h.k0]; rfl
theorem Two.c10 (h : Two w W a b c d) : W.cell? ⟨w.heap.size + 1, 0, none⟩ = some c := by rw [Lib.cell_of_heap h.k1]; rfl
theorem Two.c11 (h : Two w W a b c d) : W.cell? ⟨w.heap.size + 1, 1, none⟩ = some d := by rw [Lib.cell_of_heap h.k1]; rfl
theorem Two.all (h : Two w W a b c d) : W.cell? ⟨w.heap.size, 0, none⟩ = some a ∧ W.cell? ⟨w.heap.size, 1, none⟩ = some b ∧ W.cell? ⟨w.heap.size + 1, 0, none⟩ = some c ∧ W.cell? ⟨w.heap.size + 1, 1, none⟩ = some d := ⟨h.c00, h.c01, h.c10, h.c11⟩
theorem Two.f0 (h : Two w W a b c d) (i : Nat) : W.frozen? ⟨w.heap.size, i, none⟩ = false := Lib.frozen_of_heap h.k0 i
theorem Two.f1 (h : Two w W a b c d) (i : Nat) : W.frozen? ⟨w.heap.size + 1, i, none⟩ = false := Lib.frozen_of_heap h.k1 i
theorem Two.s00 (h : Two w W a b c d) (x : Value) : Two w (W.setCell ⟨w.heap.size, 0, none⟩ x) x b c d :=
  ⟨by simp [World.setCell, Array.getElem?_modify, h.k0], (Below.heap_setCell _ _ _ _ (by simp)).trans h.k1, h.below.setCell (p := ⟨w.heap.size, 0, none⟩) (Nat.le_refl _) _⟩
theorem Two.s01 (h : Two w W a b c d) (x : Value) : Two w (W.setCell ⟨w.heap.size, 1, none⟩ x) a x c d :=
  ⟨by simp [World.setCell, Array.getElem?_modify, h.k0], (Below.heap_setCell _ _ _ _ (by simp)).trans h.k1, h.below.setCell (p := ⟨w.heap.size, 1, none⟩) (Nat.le_refl _) _⟩
theorem Two.s10 (h : Two w W a b c d) (x : Value) : Two w (W.setCell ⟨w.heap.size + 1, 0, none⟩ x) a b x d :=
  ⟨(Below.heap_setCell _ _ _ _ (by simp)).trans h.k0, by simp [World.setCell, Array.getElem?_modify, h.k1], h.below.setCell (p := ⟨w.heap.size + 1, 0, none⟩) (by show w.heap.size ≤ w.heap.size + 1; omega) _⟩
theorem Two.s11 (h : Two w W a b c d) (x : Value) : Two w (W.setCell ⟨w.heap.size + 1, 1, none⟩ x) a b c x :=
  ⟨(Below.heap_setCell _ _ _ _ (by simp)).trans h.k0, by simp [World.setCell, Array.getElem?_modify, h.k1], h.below.setCell (p := ⟨w.heap.size + 1, 1, none⟩) (by show w.heap.size ≤ w.heap.size + 1; omega) _⟩
end

set_option maxHeartbeats 2000000 in
set_option maxRecDepth 100000 in
theorem both_any (s t : ByteArray) (w : World) : Calls Tryz.prog 74 #[.string s, .string t] w (BothPost s t w) := by
  have hV := isValid_any s
  have hV2 := isValid_any t
  have hst := Lib.hid (Two.start w (.bool false) (.slice none 0 0) (.bool false) (.slice none 0 0))
  cases hs : valid s.data.toList with
  | false =>
    rw [hs] at hV
    have HS := Lib.hid hs
    clear hs
    go_enter Tryz.func74, Tryz.ntmps74
    go_wp2_with (go_at_call 90; refine (hV _).mono ?_; rintro e w1 ⟨rfl, hb1⟩; have S1 := hst.out.next hb1; have c00 := S1.c00; have c01 := S1.c01; have c10 := S1.c10; have c11 := S1.c11; have f00 := S1.f0 0; have f01 := S1.f0 1; have f10 := S1.f1 0; have f11 := S1.f1 1)
    have S2 := (((S1.s00 (.bool false)).s01 (.slice none 0 0)).s10 (.bool false)).s11 (.slice none 0 0)
    refine bodyPost_ret (results_rows_tmp (p := 4) (q := 5) (u := 6) (by kernel_rfl) _ _ w.heap.size (w.heap.size + 1) 91 _ _ _ _ (0, 0) (0, 0) rfl rfl S2.k0 S2.k1) rfl ?_
    exact .inr ⟨by rw [HS.out]; rfl, rfl, S2.below⟩
  | true =>
    rw [hs] at hV
    have HS := Lib.hid hs
    clear hs
    cases ht : valid t.data.toList with
    | false =>
      rw [ht] at hV2
      have HT := Lib.hid ht
      clear ht
      go_enter Tryz.func74, Tryz.ntmps74
      go_wp2_with fail
      refine (hV _).mono ?_
      rintro e w1 ⟨rfl, hb1⟩
      have S1 := hst.out.next hb1
      go_wp2_with (go_at_call 90; refine (hV2 _).mono ?_; rintro e w2 ⟨rfl, hb2⟩; have S2 := S1.next hb2; have c00 := S2.c00; have c01 := S2.c01; have c10 := S2.c10; have c11 := S2.c11; have f00 := S2.f0 0; have f01 := S2.f0 1; have f10 := S2.f1 0; have f11 := S2.f1 1)
      have S3 := (((S2.s00 (.bool false)).s01 (.slice none 0 0)).s10 (.bool false)).s11 (.slice none 0 0)
      refine bodyPost_ret (results_rows_tmp (p := 4) (q := 5) (u := 6) (by kernel_rfl) _ _ w.heap.size (w.heap.size + 1) 91 _ _ _ _ (0, 0) (0, 0) rfl rfl S3.k0 S3.k1) rfl ?_
      exact .inr ⟨by rw [HS.out, HT.out]; rfl, rfl, S3.below⟩
    | true =>
      rw [ht] at hV2
      have HT := Lib.hid ht
      clear ht
      go_enter Tryz.func74, Tryz.ntmps74
      go_wp2_with fail
      refine (hV _).mono ?_
      rintro e w1 ⟨rfl, hb1⟩
      have S1 := hst.out.next hb1
      clear hst hb1
      go_wp2_with fail
      refine (hV2 _).mono ?_
      rintro e w2 ⟨rfl, hb2⟩
      have S2 := S1.next hb2
      clear S1 hb2
      go_wp2_with fail
      refine (parse_any s _ HS.out).mono ?_
      rintro e w3 ⟨x, rfl, ⟨rx, rfl, nx⟩, hb3⟩
      have S3 := S2.next hb3
      clear S2 hb3
      go_wp2_with fail
      refine (parse_any t _ HT.out).mono ?_
      rintro e w4 ⟨y, rfl, ⟨ry, rfl, ny⟩, hb4⟩
      have S4 := S3.next hb4
      have nx4 := nx.below (Nat.le_refl _) hb4
      clear S3 hb4 nx
      obtain ⟨ax, lx, cx, rfl⟩ : ∃ a l c, rx = .slice a l c := by obtain ⟨xs, ix, _⟩ := nx4; obtain ⟨a, c, e⟩ := ix.shape; exact ⟨_, _, _, e⟩
      obtain ⟨ay, ly, cy, rfl⟩ : ∃ a l c, ry = .slice a l c := by obtain ⟨xs, ix, _⟩ := ny; obtain ⟨a, c, e⟩ := ix.shape; exact ⟨_, _, _, e⟩
      have c00 := S4.c00; have c01 := S4.c01; have c10 := S4.c10; have c11 := S4.c11; have f00 := S4.f0 0; have f01 := S4.f0 1; have f10 := S4.f1 0; have f11 := S4.f1 1
      go_wp2
      have A1 := S4.s00 (.bool (decide (num s.data.toList < 0)))
      have A2 := A1.s01 (.slice ax lx cx)
      have A3 := A2.s10 (.bool (decide (num t.data.toList < 0)))
      have A4 := A3.s11 (.slice ay ly cy)
      have keep : ∀ (v : Value) (n : Nat), Num w4 v n → Num ((((w4.setCell ⟨w.heap.size, 0, none⟩ (.bool (decide (num s.data.toList < 0)))).setCell ⟨w.heap.size, 1, none⟩ (.slice ax lx cx)).setCell ⟨w.heap.size + 1, 0, none⟩ (.bool (decide (num t.data.toList < 0)))).setCell ⟨w.heap.size + 1, 1, none⟩ (.slice ay ly cy)) v n := fun v n h =>
        (((h.setNot S4.c00 (fun i e => by cases e) _).setNot A1.c01 (fun i e => by cases e) _).setNot A2.c10 (fun i e => by cases e) _).setNot A3.c11 (fun i e => by cases e) _
      refine bodyPost_ret (results_rows_tmp (p := 4) (q := 5) (u := 6) (by kernel_rfl) _ _ w.heap.size (w.heap.size + 1) 91 _ _ _ _ (0, 0) (0, 0) rfl rfl A4.k0 A4.k1) rfl ?_
      exact .inl ⟨HS.out, HT.out, _, _, rfl, ⟨_, rfl, keep _ _ nx4⟩, ⟨_, rfl, keep _ _ ny⟩, A4.below⟩

end Go.Proofs.Tryz
