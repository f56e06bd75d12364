/- 'times': the product of two numbers. -/
import Derived.Test.YtdjnkaeggnkgeaaGreatDoorCmp
import Derived.Test.YtdjnkaeggnkgeaaGreatDoorTxt
import Derived.Shelf.RegionOpen
namespace Go.Proofs.Tryz
open Go.RowKit Go.Proofs.Dt Go.Shelf

attribute [local go_sem] Oper.semAt_some

theorem boxed_below {W W' : World} {B k : Nat} {t : TypeId} {v : Value} (h : Boxed W B t v) (hb : Below k W W') (hk : B < k) : Boxed W' B t v := (hb.block B hk).trans h
theorem Num.shape {W : World} {v : Value} {n : Nat} (h : Num W v n) : ∃ a len cap, v = .slice a len cap := by
  obtain ⟨xs, ix, _⟩ := h; obtain ⟨a, c, e⟩ := ix.shape; exact ⟨_, _, _, e⟩

theorem Ints.setBox {W : World} {v : Value} {xs : List Int} {B : Nat} {t : TypeId} {u : Value} (h : Ints W v xs) (hb : Boxed W B t u) (hu : ∀ i, u ≠ .int .i64 i) (u' : Value) : Ints (W.setCell ⟨B, 0, none⟩ u') v xs := by
  rcases h with h | ⟨b, off, cap, hv, hc, hlt, hcell⟩
  · exact .inl h
  · refine .inr ⟨b, off, cap, hv, hc, by simpa [World.setCell] using hlt, fun j hj => ?_⟩
    have hj' := hcell j hj
    by_cases e : b = B
    · subst e
      exfalso
      simp only [World.cell?, show W.heap[b]? = _ from hb] at hj'
      cases hk : off + j with
      | zero => rw [hk] at hj'; simp at hj'; exact hu _ hj'
      | succ k => rw [hk] at hj'; simp at hj'
    · exact (World.cell?_of_block (w := W) (Below.heap_setCell _ _ _ _ e)).trans hj'
theorem Num.setBox {W : World} {v : Value} {n : Nat} {B : Nat} {t : TypeId} {u : Value} (h : Num W v n) (hb : Boxed W B t u) (hu : ∀ i, u ≠ .int .i64 i) (u' : Value) : Num (W.setCell ⟨B, 0, none⟩ u') v n :=
  let ⟨xs, h1, h2⟩ := h; ⟨xs, h1.setBox hb hu u', h2⟩
theorem keepsOthers_below {W W' : World} (h : Below W.heap.size W W') : KeepsOthers W W' := ⟨h.size, fun k _ hk _ => (h.block k (Array.getElem?_eq_some_iff.1 hk).1).trans hk⟩
theorem boxed_other {W : World} {B B' : Nat} {t : TypeId} {v : Value} (h : Boxed W B t v) (u : Value) (hne : B ≠ B') : Boxed (W.setCell ⟨B', 0, none⟩ u) B t v := (Below.heap_setCell _ _ _ _ hne).trans h

theorem rep_shift {zs : List Int} {n : Nat} (h : RepN 10000 zs n) (h0 : zs ≠ []) : RepN 10000 (0 :: zs) (n * 10000) := by
  refine ⟨Dgs.cons (by decide) (by decide) h.good, ?_, ?_⟩
  · have := h.norm
    unfold Nrm at *
    cases zs with
    | nil => exact absurd rfl h0
    | cons z r => rwa [List.getLast?_cons_cons]
  · rw [val_cons, h.val]; omega

/-- The end of a round: the new number is stored. -/
theorem times_end {w W w2 : World} {N K : Nat} {lv v2 o : Value} (hB : Below w.heap.size w W) (hs : w.heap.size + 3 ≤ W.heap.size) (hbl : Boxed W w.heap.size 48 lv) (hbo : Boxed W (w.heap.size + 1) 48 o) (ho : ∀ i, o ≠ .int .i64 i) (hb : Below W.heap.size W w2) (hr : Num w2 v2 N) :
    KeepsFrom K W (w2.setCell ⟨w.heap.size + 1, 0, none⟩ v2) ∧ KeepsBox w.heap.size (w.heap.size + 1 + 1) W (w2.setCell ⟨w.heap.size + 1, 0, none⟩ v2) ∧ Boxed (w2.setCell ⟨w.heap.size + 1, 0, none⟩ v2) w.heap.size 48 lv ∧
      Boxed (w2.setCell ⟨w.heap.size + 1, 0, none⟩ v2) (w.heap.size + 1) 48 v2 ∧ Num (w2.setCell ⟨w.heap.size + 1, 0, none⟩ v2) v2 N ∧ w.heap.size + 3 ≤ (w2.setCell ⟨w.heap.size + 1, 0, none⟩ v2).heap.size ∧ Below w.heap.size w (w2.setCell ⟨w.heap.size + 1, 0, none⟩ v2) := by
  have hbo2 := boxed_below hbo hb (by omega)
  have hbl2 := boxed_below hbl hb (by omega)
  refine ⟨((keepsOthers_below hb).trans (KeepsOthers.setCell _ _ _)).from _, (KeepsBox.of_below hb (by omega) (by omega)).trans (KeepsBox.setCell _ _ _ (by omega) (by omega)), boxed_other hbl2 _ (by omega), hbo2.set _, hr.setBox hbo2 ho _, ?_, (hB.trans (hb.mono (by omega))).setCell (by show w.heap.size ≤ w.heap.size + 1; omega) _⟩
  have := hb.size
  simp only [World.setCell, Array.size_modify]
  omega

/-- At most k groups. -/
@[irreducible] def Lim (k n : Nat) : Prop := n < 10000 ^ k
theorem Lim.iff {k n : Nat} : Lim k n ↔ n < 10000 ^ k := by unfold Lim; exact Iff.rfl
theorem Lim.length {k : Nat} {xs : List Int} {n : Nat} (h : RepN 10000 xs n) (hf : Lim k n) : xs.length ≤ k :=
  h.length (by decide) (by have := Int.ofNat_lt.2 (Lim.iff.1 hf); rw [Int.natCast_pow] at this; exact this)
theorem Lim.mul {j k a c : Nat} (h : Lim j a) (hc : Lim k c) : Lim (j + k) (a * c) := by
  unfold Lim at *; rw [Nat.pow_add]; exact Nat.mul_lt_mul'' h hc
theorem Lim.mono {j k a : Nat} (h : Lim j a) (hk : j ≤ k) : Lim k a := Lim.iff.2 (Nat.lt_of_lt_of_le (Lim.iff.1 h) (Nat.pow_le_pow_right (by decide) hk))
theorem Lim.fits_gen {k a : Nat} (h : Lim k a) : (a : Int) < 10000 ^ k := by have := Int.ofNat_lt.2 (Lim.iff.1 h); rw [Int.natCast_pow] at this; exact this
theorem Lim.fits {k a : Nat} (h : Lim k a) (hk : k ≤ 1000) : Fits a := by unfold Fits; exact (h.mono hk).fits_gen
theorem Lim.le {k a c : Nat} (h : Lim k a) (hc : c ≤ a) : Lim k c := Lim.iff.2 (Nat.lt_of_le_of_lt hc (Lim.iff.1 h))
theorem Lim.add {k a c : Nat} (h : Lim k a) (hc : Lim k c) : Lim (k + 1) (a + c) := by unfold Lim at *; rw [Nat.pow_succ]; omega

theorem Ints.kept {W W' : World} {row : Option Nat} {v : Value} {xs : List Int} (h : Ints W v xs) (hg : W.grownBy W' row) (hr : ∀ r, row = some r → ∃ o : Obj, W.heap[r]? = some o ∧ o.isCells = false) : Ints W' v xs := by
  rcases h with h | ⟨b, off, cap, hv, hc, hlt, hcell⟩
  · exact .inl h
  · exact .inr ⟨b, off, cap, hv, hc, Nat.lt_of_lt_of_le hlt hg.size, fun j hj => cell_kept (hcell j hj) hg hr⟩
theorem Num.kept {W W' : World} {row : Option Nat} {v : Value} {n : Nat} (h : Num W v n) (hg : W.grownBy W' row) (hr : ∀ r, row = some r → ∃ o : Obj, W.heap[r]? = some o ∧ o.isCells = false) : Num W' v n :=
  let ⟨xs, h1, h2⟩ := h; ⟨xs, h1.kept hg hr, h2⟩

/-- A literal of one element. -/
theorem ownsRow_lit (W : World) (x : Value) : (W.alloc (.cells #[x] 3)).ownsRow W.heap.size 3 1 (.slice (some ⟨W.heap.size, 0, none⟩) 1 1) 1 [x] := by
  refine ⟨rfl, .inr ⟨W.heap.size, 1, #[x], rfl, Nat.le_refl _, World.alloc_heap_new W _, Nat.le_refl _, by unfold maxLen; omega, rfl, rfl⟩⟩

/-- The value of the groups that have come. -/
def folded (ys : List Int) (pre : List (Fin ys.length)) : Nat := pre.foldl (fun acc x => acc * 10000 + (grp ys x).toNat) 0
theorem folded_nil (ys : List Int) : folded ys [] = 0 := rfl
theorem folded_snoc (ys : List Int) (pre : List (Fin ys.length)) (x : Fin ys.length) : folded ys (pre ++ [x]) = folded ys pre * 10000 + (grp ys x).toNat := by simp [folded]
theorem folded_lt {ys : List Int} (hg : Dgs 10000 ys) (pre : List (Fin ys.length)) : Lim pre.length (folded ys pre) := by
  unfold Lim
  induction pre using snoc_induction with
  | h0 => simp [folded]
  | h1 l a ih =>
    rw [folded_snoc, List.length_append, List.length_singleton, Nat.pow_succ]
    have := (hg _ (List.getElem_mem a.isLt)).2
    have h2 : (grp ys a).toNat < 10000 := by show (ys[a.val]).toNat < 10000; omega
    omega
theorem folded_all {ys : List Int} (hg : Dgs 10000 ys) : ∀ (k : Nat) (pre : List (Fin ys.length)), k ≤ ys.length → pre.map Fin.val = dn ys.length k → (folded ys pre : Int) = val 10000 (ys.drop (ys.length - k)) := by
  intro k
  induction k with
  | zero =>
    intro pre _ h
    have : pre = [] := by simpa [dn] using h
    subst this
    simp [folded, val_nil]
  | succ k ih =>
    intro pre hk h
    have hne : pre ≠ [] := by intro e; subst e; simp [dn] at h
    obtain ⟨ini, x, rfl⟩ : ∃ m x, pre = m ++ [x] := ⟨pre.dropLast, pre.getLast hne, (List.dropLast_concat_getLast hne).symm⟩
    rw [dn_succ, List.map_append] at h
    obtain ⟨h1, h2⟩ := List.append_inj' h rfl
    have hx : x.val = ys.length - 1 - k := by simpa using h2
    rw [folded_snoc, drop_cons (by omega), val_cons, show ys.length - (k + 1) = x.val by omega, grp_eq, show x.val + 1 = ys.length - k by omega, ← ih ini (by omega) h1]
    have := (hg _ (List.getElem_mem x.isLt)).1
    have h3 : ((grp ys x).toNat : Int) = grp ys x := by show ((ys[x.val]).toNat : Int) = ys[x.val]; omega
    rw [Int.natCast_add, h3, Int.natCast_mul]
    omega

set_option maxRecDepth 100000 in
set_option maxHeartbeats 4000000 in
theorem times_in (F : Fence) (n : Nat) (hf0 : F.fn 41) (hf1 : F.fn 60) (hf2 : F.fn 78) (hf3 : F.fn 64) (hf4 : F.fn 43) (hro : F.round = none) (hn : 3 ≤ n)
    (hBy : ∀ (m : Nat) (v : Value) (a : Nat) (k : Int) (W : World), 0 ≤ k → k ≤ 9999 → Num W v a → Fits a → CallsIn F m Tryz.prog 64 #[v, .int .i64 k] W (NumPost W (a * k.toNat)))
    (hPl : ∀ (m : Nat) (v u : Value) (a b : Nat) (W : World), Num W v a → Num W u b → Fits a → Fits b → CallsIn F m Tryz.prog 43 #[v, u] W (NumPost W (a + b)))
    (v u : Value) (a b : Nat) (w : World) (ha : Num w v a) (hb : Num w u b) (fa : Lim 400 a) (fb : Lim 400 b) :
    CallsIn F n Tryz.prog 41 #[v, u] w (NumPost w (a * b)) := by
  obtain ⟨ys, iy, ry⟩ := hb
  have ly : ys.length ≤ 400 := Lim.length ry fb
  obtain ⟨au, cu, rfl⟩ := iy.shape
  obtain ⟨lv, av, cv, rfl⟩ : ∃ lv av cv, v = .slice av lv cv := by obtain ⟨xs, ix, _⟩ := ha; obtain ⟨a, c, e⟩ := ix.shape; exact ⟨_, _, _, e⟩
  have h1 : 1 ≤ n := by omega
  have h11 : 1 ≤ n - 1 - 1 := by omega
  have FA := Lib.hid fa
  clear fa fb
  refine callsIn_of_wp_marks Tryz.func41 rfl hf0 ?_ hro
  simp only [Tryz.ntmps41, List.size_toArray, List.length_cons, List.length_nil, Nat.reduceAdd, Nat.reduceSub, Array.replicate_succ, Array.replicate_zero, List.push_toArray, List.append_toArray, List.nil_append, List.cons_append]
  gi_wp2_with (gi_at_call 60; go_must (refine (back_in F (n - 1) hf1 hro _ _ _ _).mono ?_); rintro e w' ⟨rfl, rfl⟩)
  have hB0 : Below w.heap.size w (((w.alloc (.cells #[.slice av lv cv] 48)).alloc (.cells #[.slice none 0 0] 48)).alloc (.cells #[.slice au ys.length cu] 48)) := (((Below.refl _ w).alloc (Nat.le_refl _) _).alloc (by simp) _).alloc (by simp; omega) _
  have bL := Boxed.new w 48 (.slice av lv cv)
  have bO := Boxed.new (w.alloc (.cells #[.slice av lv cv] 48)) 48 (.slice none 0 0)
  have bI := Boxed.new ((w.alloc (.cells #[.slice av lv cv] 48)).alloc (.cells #[.slice none 0 0] 48)) 48 (.slice au ys.length cu)
  rw [World.size_alloc] at bO
  rw [World.size_alloc, World.size_alloc] at bI
  have bL := (bL.alloc (.cells #[.slice none 0 0] 48)).alloc (.cells #[.slice au ys.length cu] 48)
  have bO := bO.alloc (.cells #[.slice au ys.length cu] 48)
  obtain ⟨W0, hW0⟩ : ∃ W0, W0 = (((w.alloc (.cells #[.slice av lv cv] 48)).alloc (.cells #[.slice none 0 0] 48)).alloc (.cells #[.slice au ys.length cu] 48)) := ⟨_, rfl⟩
  have s0 : W0.heap.size = w.heap.size + 3 := by rw [hW0]; simp
  rw [← hW0] at hB0 bL bO bI ⊢
  clear hW0
  refine wpIn_rangeFunc_ownG hro h1 (gf := 78) (lb := #[.pointer (some ⟨w.heap.size + 1 + 1, 0, none⟩)]) rfl hf2 (enters_of Tryz.func78 (by kernel_rfl) rfl)
    (back_stops F (n - 1) hf2 hro (by omega) (w.heap.size + 1 + 1) w.heap.size _ ys (by omega) W0 (by omega) bI.cell w (Nat.le_refl _) hB0 iy) keepsBox_t (keepsBox_b (by omega) (by omega)) (Below.refl _ _) (fun _ => rfl)
    (fun pre W => (Boxed W w.heap.size 48 (.slice av lv cv) ∧ w.heap.size + 3 ≤ W.heap.size ∧ ∃ o, Boxed W (w.heap.size + 1) 48 o ∧ Num W o (a * folded ys pre) ∧ (∀ b, b < w.heap.size → Away b o)) ∧ Below w.heap.size w W)
    (fun _ _ _ => False)
    (OwnFrom.and (Own.from (fun s A B row hs hg hr => ⟨hs.1.kept hg (fun e => by obtain ⟨o, ho, hc⟩ := hr _ e.symm; rw [show A.heap[w.heap.size]? = _ from hs.1] at ho; cases ho; cases hc), Nat.le_trans hs.2.1 hg.size, by
      obtain ⟨o, h1, h2, h3⟩ := hs.2.2
      exact ⟨o, h1.kept hg (fun e => by obtain ⟨o, ho, hc⟩ := hr _ e.symm; rw [show A.heap[w.heap.size + 1]? = _ from h1] at ho; cases ho; cases hc), h2.kept hg hr, h3⟩⟩) _) (ownFrom_below (Nat.le_refl _) (by omega)))
    (fun _ _ _ _ _ hs _ _ => hs)
    ⟨⟨bL, by omega, _, bO, ⟨[], Ints.nil _, ⟨Dgs.nil _, Nrm.nil, by simp [folded_nil, val_nil]⟩⟩, fun b _ => Away.nil b⟩, hB0⟩
    (fun x => { tmps := #[.slice av lv cv, .slice au ys.length cu, .pointer (some ⟨w.heap.size, 0, none⟩), undef, .slice none 0 0, .pointer (some ⟨w.heap.size + 1, 0, none⟩), undef, .int .i64 (grp ys x), .slice au ys.length cu,
      .func (.func 78) #[] #[.pointer (some ⟨w.heap.size + 1 + 1, 0, none⟩)], .int .i64 (x.val : Int), .int .i64 (grp ys x), undef, undef, undef, undef, undef, undef, undef, undef, undef, undef, undef, undef], defers := [] }) ?assign ?body ?done ?stop
  case assign =>
    intro l x W K hK
    gi_wp2
    exact hK
  case body =>
    rintro l pre x W ⟨⟨hbl, hpl, o, hbo, hno, _⟩, hB⟩ hlt
    have mixed : Tryz.prog.follows .mixedOrders = true := by kernel_rfl
    obtain ⟨zs, iz, rz⟩ := hno
    have hx0 : 0 ≤ grp ys x := (ry.good _ (List.getElem_mem x.isLt)).1
    have hx1 : grp ys x ≤ 9999 := by have := (ry.good _ (List.getElem_mem x.isLt)).2; show ys[x.val] ≤ 9999; omega
    have hcl := hbl.cell
    have hco := hbo.cell
    have hfo := hbo.frozen
    have hby : Hid (∀ (m : Nat) (W1 : World), Below w.heap.size w W1 → CallsIn F m Tryz.prog 64 #[.slice av lv cv, .int .i64 (grp ys x)] W1 (NumPost W1 (a * (grp ys x).toNat))) :=
      fun m W1 h => hBy m _ a _ W1 hx0 hx1 (ha.below (Nat.le_refl _) h) (FA.out.fits (by omega))
    have HFN : Hid (Fits (a * (grp ys x).toNat)) := (FA.out.mul (k := 1) (by unfold Lim; omega)).fits (by omega)
    have HF0 : Hid (Fits 0) := Lim.fits (k := 0) (by unfold Lim; omega) (by omega)
    have HFA : Hid (Fits (a * folded ys pre * 10000)) := by
      have := (FA.out.mul (folded_lt ry.good pre)).mul (k := 1) (c := 9999) (by rw [Lim.iff]; omega)
      have h2 : Lim 1000 (a * folded ys pre * 10000) := by
        have h3 := (FA.out.mul (folded_lt ry.good pre))
        have h4 : Lim (400 + pre.length + 1 + 1) (a * folded ys pre * 10000) := by
          rw [Lim.iff] at h3 ⊢
          rw [Nat.pow_succ, Nat.pow_succ]
          generalize 10000 ^ (400 + pre.length) = p at h3 ⊢
          omega
        exact h4.mono (by omega)
      exact h2.fits (Nat.le_refl _)
    by_cases h0 : zs = []
    · subst h0
      have hz : a * folded ys pre = 0 := (rz.pos (by decide)).1 rfl
      obtain ⟨ao, co, e⟩ := iz.shape
      rw [List.length_nil] at e
      subst e
      have HA : Hid (∀ w1, Below W.heap.size W w1 → Num w1 (.slice ao 0 co) (a * folded ys pre * 10000)) := fun w1 h => by rw [hz]; exact ⟨[], iz.below (Nat.le_refl _) h, ⟨Dgs.nil _, Nrm.nil, rfl⟩⟩
      clear hz iz
      gi_wp2
      gi_region_with_o (first
        | (gi_at_call 64; go_must (refine (CallsIn.inRound l (hby.out _ _ (by first | exact hB | exact hB.drew))).mono ?_); rintro e w1 ⟨r, rfl, hr, _, hb⟩; obtain ⟨ra, rl, rc, rfl⟩ := hr.shape; have hbW : Below W.heap.size W w1 := ⟨hb.os, hb.tape, hb.output, hb.size, hb.block⟩; have hbo1 := boxed_below hbo hbW hbo.lt; have hco1 := hbo1.cell)
        | (gi_at_call 43; go_must (refine (CallsIn.inRound l (hPl _ _ _ _ _ _ (HA.out _ hbW) hr HFA.out HFN.out)).mono ?_); rintro e w2 ⟨r2, rfl, hr2, haw, hb2⟩; obtain ⟨ra2, rl2, rc2, rfl⟩ := hr2.shape; have hbW2 := hbW.trans (hb2.mono hbW.size); have hbo2 := boxed_below hbo hbW2 hbo.lt; have hco2 := hbo2.cell; have hfo2 := hbo2.frozen))
      all_goals
        obtain ⟨E1, E2, E3, E4, E5, E6, E7⟩ := times_end (K := W0.heap.size) hB hpl hbl hbo (by intro i e; cases e) hbW2 hr2
        exact ⟨E1, E2, ⟨E3, E6, _, E4, by rw [folded_snoc, Nat.mul_add, ← Nat.mul_assoc]; exact E5, fun b h => haw b (by have := hB.size; have := hbW.size; omega)⟩, E7⟩
    · rcases iz with ⟨_, e⟩ | ⟨b1, off, cap, rfl, hcap, hb1, hcs⟩
      · exact absurd e h0
      · have hlz : zs.length ≤ 800 := Lim.length rz ((FA.out.mul (folded_lt ry.good pre)).mono (k := 800) (by omega))
        have hl0 : 0 < zs.length := by cases zs with | nil => exact absurd rfl h0 | cons z zs => simp
        obtain ⟨i0, hi, hz0, hz1, hz2⟩ := info_parts info3
        have hcoA := (hbo.alloc (.cells #[.int .i64 0] 3)).cell
        have HCS := Lib.hid hcs
        have HBO := Lib.hid hbo
        have HBL := Lib.hid hbl
        clear hcs
        gi_wp2_with (gi_at_builtin; go_must (refine wpListIn_append_own _ rfl _ _ 48 rfl W.heap.size 3 i0 (.int .i64 0) 1 8 Tryz.underlying48 hi hz0 hz1 hz2 rfl (by decide) _ _ _ rfl (ownsRow_lit W _) ⟨b1, off, none⟩ zs.length cap (zs.map (Value.int .i64)) rfl (by simp) ?_ ?_ ?_ ?_ ?_ ?_); rotate_right; intro v' w1 hown' hgrow _; obtain ⟨g', cap', rfl⟩ := ownsRow_succ (by rw [Nat.add_comm] at hown'; exact hown'); have hg2 : Below W.heap.size W w1 := ((Below.refl _ W).alloc (Nat.le_refl _) _).grown hgrow (by simp) (fun k e => by cases e; exact Nat.le_refl _); have hbo1 := boxed_below hbo hg2 hbo.lt; have hco1 := hbo1.cell; have hfo1 := hbo1.frozen)
        · have hn1 : Num w1 (.slice (some ⟨g', 0, none⟩) (zs.length + 1) cap') (a * folded ys pre * 10000) := ⟨0 :: zs, ownsRow_ints (B := W.heap.size) (by have h := hown'; rw [show 1 + zs.length = zs.length + 1 by omega] at h; exact h), rep_shift rz h0⟩
          obtain ⟨E1, E2, E3, E4, E5, E6, E7⟩ := times_end (K := W0.heap.size) hB hpl HBL.out HBO.out (by intro i e; cases e) hg2 hn1
          obtain ⟨Ws, hWs⟩ : ∃ Ws, Ws = w1.setCell ⟨w.heap.size + 1, 0, none⟩ (.slice (some ⟨g', 0, none⟩) (zs.length + 1) cap') := ⟨_, rfl⟩
          rw [← hWs] at E1 E2 E3 E4 E5 E6 E7 ⊢
          have hclS := E3.cell
          have hcoS := E4.cell
          clear hWs hown' hgrow hg2 hn1 hcl hco hfo hcoA hbo1 hco1 hfo1
          gi_region_with_o (first
            | (gi_at_call 64; go_must (refine (CallsIn.inRound l (hby.out _ _ (by first | exact E7 | exact E7.drew))).mono ?_); rintro e w1 ⟨r, rfl, hr, _, hb⟩; obtain ⟨ra, rl, rc, rfl⟩ := hr.shape; have hbW : Below Ws.heap.size Ws w1 := ⟨hb.os, hb.tape, hb.output, hb.size, hb.block⟩; have hbo1 := boxed_below E4 hbW E4.lt; have hco1 := hbo1.cell)
            | (gi_at_call 43; go_must (refine (CallsIn.inRound l (hPl _ _ _ _ _ _ (E5.below (Nat.le_refl _) hbW) hr HFA.out HFN.out)).mono ?_); rintro e w2 ⟨r2, rfl, hr2, haw, hb2⟩; obtain ⟨ra2, rl2, rc2, rfl⟩ := hr2.shape; have hbW2 := hbW.trans (hb2.mono hbW.size); have hbo2 := boxed_below E4 hbW2 E4.lt; have hco2 := hbo2.cell; have hfo2 := hbo2.frozen))
          all_goals
            obtain ⟨G1, G2, G3, G4, G5, G6, G7⟩ := times_end (K := W0.heap.size) E7 E6 E3 E4 (by intro i e; cases e) hbW2 hr2
            exact ⟨E1.trans G1, E2.trans G2, ⟨G3, G6, _, G4, by rw [folded_snoc, Nat.mul_add, ← Nat.mul_assoc]; exact G5, fun b h => haw b (by have := E7.size; have := hbW.size; omega)⟩, G7⟩
        · intro j u hj
          rw [List.getElem?_map] at hj
          obtain ⟨z, hz, rfl⟩ := Option.map_eq_some_iff.1 hj
          have hjl : j < zs.length := (List.getElem?_eq_some_iff.1 hz).1
          have := HCS.out j hjl
          rw [hz, Option.getD_some] at this
          rw [show (⟨b1, off, none⟩ : Addr).add j = ⟨b1, off + j, none⟩ by simp [Addr.add]]
          exact (World.cell?_alloc_past _ _ _ hb1).trans this
        · intro u hu
          obtain ⟨z, _, rfl⟩ := List.mem_map.1 hu
          rfl
        · unfold maxLen; omega
        · omega
        · simp
  case done =>
    rintro D zs W hD hzs ⟨⟨hbl, _, o, hbo, hno, haw⟩, hB⟩ hK
    have hfo := folded_all ry.good ys.length zs (Nat.le_refl _) hzs
    rw [Nat.sub_self, List.drop_zero, ry.val] at hfo
    have hfo2 : folded ys zs = b := by omega
    have HN := Lib.hid hno
    have HAW := Lib.hid haw
    clear hfo hno hzs haw
    have hc := hbo.cell
    gi_wp2
    refine ⟨by simp, .inl ⟨_, _, rfl, run_takeDeferred hK, ?_⟩⟩
    have HN2 := HN.out
    rw [hfo2] at HN2
    exact ⟨_, results_tmp rfl _ _ _, o, rfl, HN2.kept (grownBy_putObj' W D (.deferred none)) (fun r e => by cases e; exact ⟨_, hK, rfl⟩), HAW.out, hB.trans (belowK_b (w := w) (Nat.le_refl _) W D _ _ (by omega) hK rfl rfl)⟩
  case stop =>
    rintro D c pre W _ _ h _
    exact h.elim

/-- 'times'. -/
theorem times_any (v u : Value) (a b : Nat) (w : World) (ha : Num w v a) (hb : Num w u b) (fa : Lim 400 a) (fb : Lim 400 b) : Calls Tryz.prog 41 #[v, u] w (NumPost w (a * b)) :=
  callsIn_wide.1 (times_in Fence.wide 3 trivial trivial trivial trivial trivial rfl (Nat.le_refl _) (fun _ v a k W h0 h1 hv hf => callsIn_wide.2 (by_any v a k h0 h1 W hv hf)) (fun _ v u a b W hv hu fa fb => callsIn_wide.2 (plus_any v u a b W hv hu fa fb)) v u a b w ha hb fa fb)

end Go.Proofs.Tryz
