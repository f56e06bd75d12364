/- 'sort.Search' with a function value that may make memory; the test of the division.
'append(own, src...)' where src is any slice of integers, nil included: inside a fence.
'over': the quotient and the remainder of two numbers.
A region that draws its order, inside a round of a range over a function: from the walk of the class of worlds outside of rounds.
'over', the walk: the loop over the groups of the dividend. -/
import Derived.Test.YtjjmabokoendbaaGreatDoorIB
import Derived.Deep.RegionHeld3
import Derived.Deep.RegionWith
import Derived.Laws.AppendOwnNone
import Derived.Test.YtjjmabokoendbaaGreatDoorProg
import Derived.WalkKit
import Derived.OrdersHeld
import Derived.OrdersIn
import Derived.TacticsIn
import Derived.Laws.EntriesVeiled
import Derived.Sort.CutIn
namespace Go.Proofs.Tryz
open Go.RowKit Go.Proofs.Dt Go.Shelf

/-- What 'sort.Search' returns. -/
def SearchPost (p : Nat → Bool) (n : Nat) (w : World) (e : Ending) (w' : World) : Prop :=
  ∃ k : Nat, k ≤ n ∧ e = .returned (.int .i64 (k : Int)) ∧ (∀ i, i < k → p i = false) ∧ (∀ i, k ≤ i → i < n → p i = true) ∧ Below w.heap.size w w'

set_option maxRecDepth 100000 in
set_option maxHeartbeats 2000000 in
theorem search_any (g : Nat) (lb : Array Value) (p : Nat → Bool) (n : Nat) (w : World) (eg : ∀ args w, (callFunc g args).run Tryz.prog w = .ok (.enter g args) w) (hn : n ≤ 100000)
    (hf : ∀ (i : Nat) (W : World), i < n → Below w.heap.size w W → Calls Tryz.prog g (#[.int .i64 (i : Int)] ++ lb) W fun e w' => e = .returned (.bool (p i)) ∧ Below W.heap.size W w')
    (hm : ∀ i j, i ≤ j → j < n → p i = true → p j = true) :
    Calls Tryz.prog 104 #[.int .i64 (n : Int), .func (.func g) #[] lb] w (SearchPost p n w) := by
  have HF := Lib.hid hf
  have HM := Lib.hid hm
  clear hf hm
  go_enter Tryz.func104, Tryz.ntmps104
  go_wp2
  go_loopw [5, 6, 7] (fun s5 s6 _ wr => ∃ lo hi : Nat, s5 = .int .i64 lo ∧ s6 = .int .i64 hi ∧ lo ≤ hi ∧ hi ≤ n ∧ Hid ((∀ t, t < lo → p t = false) ∧ (∀ t, hi ≤ t → t < n → p t = true)) ∧ Below w.heap.size w wr)
    (fun s5 s6 _ _ => (intOf s6 - intOf s5).toNat)
  case atStart => exact ⟨0, n, rfl, rfl, Nat.zero_le _, Nat.le_refl _, ⟨fun t h => absurd h (Nat.not_lt_zero _), fun t h1 h2 => by omega⟩, Below.refl _ _⟩
  case round =>
    obtain ⟨lo, hi, rfl, rfl, hlh, hin, I, hb⟩ := hrel
    by_cases hlt : lo < hi
    · have hc := HF.out ((lo + hi) / 2) wr (by omega) hb
      rw [show (((lo + hi) / 2 : Nat) : Int) = ((lo : Int) + (hi : Int)) / 2 by omega] at hc
      cases hp : p ((lo + hi) / 2)
      · rw [hp] at hc
        have HP := Lib.hid hp
        have HC := Lib.hid hc
        clear hp hc
        go_wp2_with (go_at_fn g; go_must (refine HC.out.mono ?_); rintro e w' ⟨rfl, hb2⟩)
        go_roundw
        case rel => exact ⟨(lo + hi) / 2 + 1, hi, by go_num, rfl, by omega, hin, ⟨fun t ht => (by
            cases h : p t with
            | false => rfl
            | true => have := HM.out t ((lo + hi) / 2) (by omega) (by omega) h; rw [HP.out] at this; cases this), I.out.2⟩, hb.trans (hb2.mono hb.size)⟩
        case measure => simp [intOf]; omega
      · rw [hp] at hc
        have HP := Lib.hid hp
        have HC := Lib.hid hc
        clear hp hc
        go_wp2_with (go_at_fn g; go_must (refine HC.out.mono ?_); rintro e w' ⟨rfl, hb2⟩)
        go_roundw
        case rel => exact ⟨lo, (lo + hi) / 2, rfl, by go_num, by omega, by omega, ⟨I.out.1, fun t ht htn => HM.out ((lo + hi) / 2) t ht htn HP.out⟩, hb.trans (hb2.mono hb.size)⟩
        case measure => simp [intOf]; omega
    · obtain rfl : hi = lo := by omega
      go_wp2
      go_ret
      exact ⟨hi, hin, rfl, I.out.1, I.out.2, hb⟩

theorem gt_zero_cmp (x y : Nat) : decide (0 < cmpI (x : Int) (y : Int)) = decide (y < x) := by
  unfold cmpI
  by_cases h : (x : Int) < y
  · rw [if_pos h]; simp; omega
  · rw [if_neg h]
    by_cases h2 : (y : Int) < x
    · rw [if_pos h2]; simp; omega
    · rw [if_neg h2]; simp; omega

set_option maxRecDepth 100000 in
set_option maxHeartbeats 2000000 in
/-- 'tooMuch': is the product with one more than d greater than what is left? -/
theorem over1_any (b1 b2 : Nat) (mv rv : Value) (m r : Nat) (i : Nat) (W : World) (hi : i < 9999) (hm : Num W mv m) (hr : Num W rv r) (fm : Fits m) (fm2 : Fits (m * (i + 1)))
    (c1 : W.cell? ⟨b1, 0, none⟩ = some (.func (.func 102) #[mv] #[])) (c2 : W.cell? ⟨b2, 0, none⟩ = some rv) :
    Calls Tryz.prog 103 #[.int .i64 (i : Int), .pointer (some ⟨b1, 0, none⟩), .pointer (some ⟨b2, 0, none⟩)] W fun e w' => e = .returned (.bool (decide (r < m * (i + 1)))) ∧ Below W.heap.size W w' := by
  obtain ⟨am, lm, cm, rfl⟩ := hm.shape
  obtain ⟨ar, lr, cr, rfl⟩ := hr.shape
  have hb2 : b2 < W.heap.size := World.block_lt_of_cell? _ _ c2
  obtain ⟨P, hP⟩ : ∃ P, P = m * (i + 1) := ⟨_, rfl⟩
  rw [← hP] at fm2
  have HB : Hid (∀ W1 : World, Below W.heap.size W W1 → Calls Tryz.prog 102 #[.slice am lm cm, .int .i64 ((i : Int) + 1)] W1 (NumPost W1 P)) := fun W1 h => by
    rw [hP]
    have := by_any (.slice am lm cm) m ((i : Int) + 1) (by omega) (by omega) W1 (hm.below (Nat.le_refl _) h) fm
    rwa [show ((i : Int) + 1).toNat = i + 1 by omega] at this
  have F2 := Lib.hid fm2
  have HP := Lib.hid hP
  have hw : IntKind.i64.wrap ((i : Int) + 1) = (i : Int) + 1 := IntWalk.i64_in _ (by omega)
  clear fm fm2 hP
  go_enter Tryz.func103, Tryz.ntmps103
  go_wp2
  go_region_with (first
    | (go_at_call 102; go_must (refine (HB.out _ (by first | exact Below.refl _ _ | exact (Below.refl _ _).drew)).mono ?_); rintro e w1 ⟨q, rfl, hq, _, hb⟩; obtain ⟨aq, lq, cq, rfl⟩ := hq.shape; have hbW : Below W.heap.size W w1 := ⟨hb.os, hb.tape, hb.output, hb.size, hb.block⟩; have c3 := (hbW.cell (p := ⟨b2, 0, none⟩) hb2).trans c2)
    | (go_at_call 80; go_must (refine (compare_any _ _ _ _ _ hq (hr.below (Nat.le_refl _) hbW) F2.out).mono ?_); rintro e w2 ⟨rfl, hb3⟩))
  all_goals go_wp2
  all_goals go_ret
  all_goals exact ⟨by rw [← HP.out]; exact congrArg (fun b => Ending.returned (Value.bool b)) (gt_zero_cmp P r), hbW.trans (hb3.mono hbW.size)⟩

end Go.Proofs.Tryz

namespace Go.Proofs.Tryz
open Go.RowKit Go.Proofs.Dt Go.Shelf

theorem World.grownBy_same (w : World) (r : Option Nat) : w.grownBy w r := ⟨rfl, rfl, rfl, Nat.le_refl _, fun _ _ _ => rfl⟩

theorem wpListIn_append_src {F : Fence} {n : Nat} (w : World) {ops : Array Oper} {rest : List Oper} {o : Oper} {a : Act} {Q : Exit → Act → World → Prop}
    (hg : o.guard = none) (s x : Operand) (t : TypeId) (hop : o.op = Op.call { callee := Callee.builtin Builtin.append, args := #[s, x], argTypes := #[t, t] })
    (base : Nat) (h1 : Tryz.prog.underlying t = some (.slice 3)) (v : Value) (k : Nat) (xs : List Value) (hs : a.eval s = v) (hown : w.ownsRow base 3 1 v k xs)
    (sv : Value) (zs : List Int) (hx : a.eval x = sv) (hI : Ints w sv zs) (hk : k ≤ 10000) (hz : zs.length ≤ 10000) (b3 : base ≤ w.heap.size)
    (hK : ∀ v' w', w'.ownsRow base 3 1 v' (k + zs.length) (xs ++ zs.map (Value.int .i64)) → w.grownBy w' v.ownBlock → wpListIn F n Tryz.prog ops Q rest (a.put o.dst v') w') :
    wpListIn F n Tryz.prog ops Q (o :: rest) a w := by
  obtain ⟨i0, hi, hz0, hz1, hz2⟩ := info_parts info3
  rcases hI with ⟨rfl, rfl⟩ | ⟨b, off, cap, rfl, hc, hb, hcs⟩
  · refine wpListIn_plain hg fun K hK' => ?_
    have hrun := run_append_owned_none (P := Tryz.prog) (w := w) base t o.type 3 i0 1 h1 hi v k xs hown
    unfold Oper.wpIn
    refine ⟨?_, ?_⟩
    · simp [Oper.about, hop, resolve, Target.leads, Sem.run_pure]
    · rw [Oper.semAt_plain F _ _ (by rw [hop]; intro c hc'; cases hc')]
      simp [execOp, hop, resolve, invoke, builtin, hs, hx, hrun, Result.andThen]
      exact hK' _ _ (hK v w (by simpa using hown) (World.grownBy_same w _))
  · refine wpListIn_append_own w hg s x t hop base 3 i0 (.int .i64 0) 1 8 h1 hi hz0 hz1 hz2 rfl (by decide) v k xs hs hown ⟨b, off, none⟩ zs.length cap (zs.map (Value.int .i64)) hx (by simp) ?_ ?_ ?_ ?_ b3 ?_
    · intro j u hj
      rw [List.getElem?_map] at hj
      obtain ⟨z, hz, rfl⟩ := Option.map_eq_some_iff.1 hj
      have hjl : j < zs.length := (List.getElem?_eq_some_iff.1 hz).1
      have := hcs j hjl
      rw [hz, Option.getD_some] at this
      rw [show (⟨b, off, none⟩ : Addr).add j = ⟨b, off + j, none⟩ by simp [Addr.add]]
      exact this
    · intro u hu
      obtain ⟨z, _, rfl⟩ := List.mem_map.1 hu
      rfl
    · unfold maxLen; omega
    · omega
    · intro v' w' hown' hgrow _
      exact hK v' w' hown' hgrow

end Go.Proofs.Tryz

namespace Go.Proofs.Tryz
open Go.RowKit Go.Proofs.Dt Go.Shelf

attribute [local go_sem] Oper.semAt_some

/-- What a round does: the digits so far, and what is left. -/
def ostep (xs : List Int) (m : Nat) (s : (Nat → Int) × Nat) (x : Fin xs.length) : (Nat → Int) × Nat :=
  (fun j => if j = x.val then ((((grp xs x).toNat + 10000 * s.2) / m : Nat) : Int) else s.1 j, ((grp xs x).toNat + 10000 * s.2) % m)
def ofold (xs : List Int) (m : Nat) (pre : List (Fin xs.length)) : (Nat → Int) × Nat := pre.foldl (ostep xs m) (fun _ => 0, 0)
theorem ofold_nil (xs : List Int) (m : Nat) : ofold xs m [] = (fun _ => 0, 0) := rfl
theorem ofold_snoc (xs : List Int) (m : Nat) (pre : List (Fin xs.length)) (x : Fin xs.length) : ofold xs m (pre ++ [x]) = ostep xs m (ofold xs m pre) x := by simp [ofold]
theorem ofold_lt (xs : List Int) {m : Nat} (hm : 0 < m) (pre : List (Fin xs.length)) : (ofold xs m pre).2 < m := by
  induction pre using snoc_induction with
  | h0 => exact hm
  | h1 l a _ => rw [ofold_snoc]; exact Nat.mod_lt _ hm
theorem grp_small {xs : List Int} (hg : Dgs 10000 xs) (x : Fin xs.length) : (grp xs x).toNat < 10000 ∧ ((grp xs x).toNat : Int) = grp xs x := by
  have := hg _ (List.getElem_mem x.isLt)
  show (xs[x.val]).toNat < 10000 ∧ ((xs[x.val]).toNat : Int) = xs[x.val]
  omega
theorem odigit_lt {xs : List Int} (hg : Dgs 10000 xs) {m : Nat} (hm : 0 < m) (pre : List (Fin xs.length)) (x : Fin xs.length) : ((grp xs x).toNat + 10000 * (ofold xs m pre).2) / m ≤ 9999 := by
  have h1 := ofold_lt xs hm pre
  have h2 := (grp_small hg x).1
  have : ((grp xs x).toNat + 10000 * (ofold xs m pre).2) / m < 10000 := by
    rw [Nat.div_lt_iff_lt_mul hm]
    have := Nat.mul_le_mul_left 10000 (show (ofold xs m pre).2 + 1 ≤ m from h1)
    omega
  omega
theorem ofold_dgs {xs : List Int} (hg : Dgs 10000 xs) {m : Nat} (hm : 0 < m) (pre : List (Fin xs.length)) : ∀ j, 0 ≤ (ofold xs m pre).1 j ∧ (ofold xs m pre).1 j < 10000 := by
  induction pre using snoc_induction with
  | h0 => intro j; show (0 : Int) ≤ 0 ∧ (0 : Int) < 10000; decide
  | h1 l a ih =>
    intro j
    rw [ofold_snoc]
    have := odigit_lt hg hm l a
    simp only [ostep]
    generalize ((grp xs a).toNat + 10000 * (ofold xs m l).2) / m = D at this ⊢
    split
    · omega
    · exact ih j

/-- The digits as a list. -/
def digitsOf (L : Nat) (f : Nat → Int) : List Int := (List.range L).map f
theorem digitsOf_length (L : Nat) (f : Nat → Int) : (digitsOf L f).length = L := by simp [digitsOf]
theorem digitsOf_get (L : Nat) (f : Nat → Int) (j : Nat) (h : j < L) : (digitsOf L f)[j]?.getD 0 = f j := by simp [digitsOf, h]
theorem digitsOf_dgs {L : Nat} {f : Nat → Int} (h : ∀ j, 0 ≤ f j ∧ f j < 10000) : Dgs 10000 (digitsOf L f) := by
  intro x hx
  obtain ⟨j, _, rfl⟩ := List.mem_map.1 hx
  exact h j

theorem ofold_keeps (xs : List Int) (m : Nat) (pre : List (Fin xs.length)) (x : Fin xs.length) (j : Nat) (hj : j ≠ x.val) : (ofold xs m (pre ++ [x])).1 j = (ofold xs m pre).1 j := by
  rw [ofold_snoc]; simp only [ostep]; rw [if_neg hj]

theorem ofold_val {xs : List Int} (hg : Dgs 10000 xs) {m : Nat} : ∀ (k : Nat) (pre : List (Fin xs.length)), k ≤ xs.length → pre.map Fin.val = dn xs.length k →
    val 10000 (xs.drop (xs.length - k)) = val 10000 ((digitsOf xs.length (ofold xs m pre).1).drop (xs.length - k)) * m + ((ofold xs m pre).2 : Int) := by
  intro k
  induction k with
  | zero =>
    intro pre _ h
    have : pre = [] := by simpa [dn] using h
    subst this
    rw [Nat.sub_zero, List.drop_length, ofold_nil, List.drop_of_length_le (by rw [digitsOf_length]; exact Nat.le_refl _)]
    simp [val_nil]
  | succ k ih =>
    intro pre hk h
    have hne : pre ≠ [] := by intro e; subst e; simp [dn] at h
    obtain ⟨ini, x, rfl⟩ : ∃ m x, pre = m ++ [x] := ⟨pre.dropLast, pre.getLast hne, (List.dropLast_concat_getLast hne).symm⟩
    rw [dn_succ, List.map_append] at h
    obtain ⟨h1, h2⟩ := List.append_inj' h rfl
    have hx : x.val = xs.length - 1 - k := by simpa using h2
    have hi := ih ini (by omega) h1
    have hd : (digitsOf xs.length (ofold xs m (ini ++ [x])).1).drop (xs.length - k) = (digitsOf xs.length (ofold xs m ini).1).drop (xs.length - k) := by
      refine List.ext_getElem (by simp [digitsOf]) (fun i h1 h2 => ?_)
      rw [List.getElem_drop, List.getElem_drop]
      simp only [digitsOf, List.getElem_map, List.getElem_range]
      exact ofold_keeps xs m ini x _ (by omega)
    rw [drop_cons (l := xs) (by omega), val_cons, drop_cons (l := digitsOf xs.length (ofold xs m (ini ++ [x])).1) (by rw [digitsOf_length]; omega), val_cons, digitsOf_get _ _ _ (by omega), show xs.length - (k + 1) = x.val by omega, grp_eq, show x.val + 1 = xs.length - k by omega, hd, hi]
    have hs : (ofold xs m (ini ++ [x])).1 x.val = ((((grp xs x).toNat + 10000 * (ofold xs m ini).2) / m : Nat) : Int) := by rw [ofold_snoc]; simp [ostep]
    have hr : (ofold xs m (ini ++ [x])).2 = ((grp xs x).toNat + 10000 * (ofold xs m ini).2) % m := by rw [ofold_snoc]; rfl
    rw [hs, hr]
    have h3 := (grp_small hg x).2
    have h4 := Nat.div_add_mod ((grp xs x).toNat + 10000 * (ofold xs m ini).2) m
    generalize ((grp xs x).toNat + 10000 * (ofold xs m ini).2) / m = D at h4 ⊢
    generalize ((grp xs x).toNat + 10000 * (ofold xs m ini).2) % m = E at h4 ⊢
    have h6 : ((m * D : Nat) : Int) = (m : Int) * (D : Int) := Int.natCast_mul m D
    have h5 : (m : Int) * (D : Int) + (E : Int) = ((grp xs x).toNat : Int) + 10000 * ((ofold xs m ini).2 : Int) := by omega
    generalize val 10000 ((digitsOf xs.length (ofold xs m ini).1).drop (xs.length - k)) = V
    generalize ((ofold xs m ini).2 : Int) = R at h5 ⊢
    rw [h3] at h5
    grind

end Go.Proofs.Tryz

namespace Go.Proofs.Tryz

theorem rowsIn_of {l n : Nat} {P : Program} {row : String} {args : Array Value} {w : World} {R : Value → World → Prop} (h : Rows P row args w R) : RowsIn (Fence.wide.inRound l) n P row args w R :=
  fun c cs _ => let ⟨v, w', h1, h2⟩ := h c cs; ⟨v, w', h1, stepsIn_wide.2 h2⟩

theorem wpOpIn_of {l n : Nat} {P : Program} {ops : Array Oper} {Q : Exit → Act → World → Prop} {i : Nat} {K : Act → World → Prop} {a : Act} {w : World} (hnd : ∀ o ∈ ops, ∀ c, o.op ≠ .defer c) (hlo : ¬ LetsOut Q) (h : wpOp P ops Q i K a w) : wpOpIn (Fence.wide.inRound l) n P ops Q i K a w := by
  unfold wpOp at h
  unfold wpOpIn
  cases ho : ops[i]? with
  | none => rw [ho] at h; exact h
  | some o =>
    rw [ho] at h
    simp only at h ⊢
    split
    · rename_i hw
      rw [if_pos hw] at h
      rcases h with h | h
      · unfold Oper.wpIn
        refine ⟨fun _ _ => trivial, ?_⟩
        rw [Fence.inRound_round, Oper.semAt_some l _ o (hnd o (Array.mem_of_getElem? ho))]
        unfold Oper.wp at h
        revert h
        generalize (execOp a.eval o).run P w = r
        intro h
        cases r with
        | ok x w' =>
          cases x
          case value v => exact h
          case skip => exact h
          case defer d => exact h
          case enter f args => exact ⟨fun hd => Bool.noConfusion hd, callsIn_wide.2 h⟩
          case row row args => exact ⟨fun hd => Bool.noConfusion hd, rowsIn_of h⟩
          all_goals exact h.elim
        | halt x w' => cases x <;> exact h
      · exact absurd h.2 hlo
    · rename_i hw
      rw [if_neg hw] at h
      exact ⟨fun _ _ => trivial, h⟩

theorem wpAnyIn_of {l n : Nat} {P : Program} {md : Region.Mode} {ops : Array Oper} {Q : Exit → Act → World → Prop} (hnd : ∀ o ∈ ops, ∀ c, o.op ≠ .defer c) (hlo : ¬ LetsOut Q) :
    ∀ (fuel : Nat) (listed : Array Bool) (a : Act) (w : World), wpAny P md ops Q fuel listed a w → wpAnyIn (Fence.wide.inRound l) n P md ops Q fuel listed a w
  | 0, _, _, _, h => h
  | fuel + 1, _, _, _, h => ⟨h.1, fun i hi => wpOpIn_of hnd hlo (wpOp_mono (fun _ _ h => wpAnyIn_of hnd hlo fuel _ _ _ h) (h.2 i hi))⟩

/-- No operation defers. -/
def noDefer (ops : Array Oper) : Bool := ops.toList.all fun o => match o.op with | .defer _ => false | _ => true
theorem noDefer_spec {ops : Array Oper} (h : noDefer ops = true) : ∀ o ∈ ops, ∀ c, o.op ≠ .defer c := by
  intro o ho c e
  have := List.all_eq_true.1 h o (Array.mem_toList_iff.2 ho)
  rw [e] at this
  cases this

/-- The beginning of such a walk. -/
theorem region_round {l n : Nat} {P : Program} {ops : Array Oper} {Q : Exit → Act → World → Prop} {id : Nat} {a : Act} {w : World} (S : World → Prop) (hm : P.follows .mixedOrders = true) (hnd : noDefer ops = true) (hlo : ¬ LetsOut Q)
    (h : wpAnyH P .any ops Q S ops.size (Array.replicate ops.size false) a w.drew) : (Code.region id ops true).wpIn (Fence.wide.inRound l) n P Q a w :=
  wpIn_region_any hm (wpAnyIn_of (noDefer_spec hnd) hlo _ _ _ _ (wpAny_of_held _ _ _ _ h))

end Go.Proofs.Tryz

namespace Go.Proofs.Tryz
open Go.RowKit Go.Proofs.Dt Go.Shelf

attribute [local go_sem] Oper.semAt_some

/-- What is true between two rounds. -/
structure OverInv (w : World) (xs : List Int) (m : Nat) (mv : Value) (pre : List (Fin xs.length)) (W : World) : Prop where
  bm : Boxed W w.heap.size 89 mv
  bq : Boxed W (w.heap.size + 1) 89 (.slice (some ⟨w.heap.size + 1 + 1 + 1, 0, none⟩) xs.length xs.length)
  br : ∃ r, Boxed W (w.heap.size + 1 + 1) 89 r ∧ Num W r (ofold xs m pre).2 ∧ Away (w.heap.size + 1 + 1 + 1) r
  row : W.rowIs (w.heap.size + 1 + 1 + 1) 3 xs.length (fun j => .int .i64 ((ofold xs m pre).1 j))
  size : w.heap.size + 5 ≤ W.heap.size
  below : Below w.heap.size w W

theorem lim_two {k t r : Nat} (h : Lim k r) (ht : t < 10000) : Lim (k + 2) (t + 10000 * r) := by
  rw [Lim.iff] at h ⊢
  rw [Nat.pow_succ, Nat.pow_succ]
  omega

theorem rowIs_kept {W W' : World} {row : Option Nat} {b : Nat} {t : TypeId} {n : Nat} {f : Nat → Value} (h : W.rowIs b t n f) (hg : W.grownBy W' row) (hr : ∀ r, row = some r → ∃ o : Obj, W.heap[r]? = some o ∧ o.isCells = false) : W'.rowIs b t n f := by
  have h0 := h
  obtain ⟨c, hb, h2⟩ := h
  refine h0.of_block (hg.block b (h0.lt) (fun e => ?_))
  obtain ⟨o, ho, hc⟩ := hr b e.symm
  rw [hb] at ho; cases ho; cases hc
theorem boxed_kept' {W W' : World} {row : Option Nat} {B : Nat} {t : TypeId} {v : Value} (h : Boxed W B t v) (hg : W.grownBy W' row) (hr : ∀ r, row = some r → ∃ o : Obj, W.heap[r]? = some o ∧ o.isCells = false) : Boxed W' B t v :=
  h.kept hg (fun e => by obtain ⟨o, ho, hc⟩ := hr _ e.symm; rw [show W.heap[B]? = _ from h] at ho; cases ho; cases hc)

theorem OverInv.own {w : World} {xs : List Int} {m : Nat} {mv : Value} {B : Nat} (hB : w.heap.size ≤ B) : OwnFrom B (fun pre W => OverInv w xs m mv pre W) := by
  intro s A A' row hs hg hr
  have hr' : ∀ r, row = some r → ∃ o : Obj, A.heap[r]? = some o ∧ o.isCells = false := fun r e => (hr r e).2
  obtain ⟨r, h1, h2, h3⟩ := hs.br
  exact ⟨boxed_kept' hs.bm hg hr', boxed_kept' hs.bq hg hr', ⟨r, boxed_kept' h1 hg hr', h2.kept hg hr', h3⟩, rowIs_kept hs.row hg hr', Nat.le_trans hs.size hg.size, hs.below.grown hg hs.below.size (fun k e => Nat.le_trans hB (hr k e).1)⟩

/-- What is true within a round: f the digits, r the slice that is left, of value T; bb the block of the method value. -/
structure OSt (w Wst : World) (K L : Nat) (mv : Value) (bb : Nat) (f : Nat → Int) (r : Value) (T : Nat) (W : World) : Prop where
  bm : Boxed W w.heap.size 89 mv
  bq : Boxed W (w.heap.size + 1) 89 (.slice (some ⟨w.heap.size + 1 + 1 + 1, 0, none⟩) L L)
  br : Boxed W (w.heap.size + 1 + 1) 89 r
  nr : Num W r T
  aw : Away (w.heap.size + 1 + 1 + 1) r
  bx : Boxed W bb 121 (.func (.func 102) #[mv] #[])
  hbb : w.heap.size + 5 ≤ bb
  row : W.rowIs (w.heap.size + 1 + 1 + 1) 3 L (fun j => .int .i64 (f j))
  size : w.heap.size + 5 ≤ W.heap.size
  below : Below w.heap.size w W
  kf : KeepsFrom K Wst W
  kb : KeepsBox w.heap.size (w.heap.size + 1 + 1 + 1 + 1) Wst W

section
variable {w Wst W W' : World} {K L : Nat} {mv : Value} {bb : Nat} {f : Nat → Int} {r : Value} {T : Nat}

theorem OSt.lt (h : OSt w Wst K L mv bb f r T W) : bb < W.heap.size := h.bx.lt

theorem OSt.of_below (h : OSt w Wst K L mv bb f r T W) (hb : Below W.heap.size W W') : OSt w Wst K L mv bb f r T W' :=
  ⟨boxed_below h.bm hb h.bm.lt, boxed_below h.bq hb h.bq.lt, boxed_below h.br hb h.br.lt, h.nr.below (Nat.le_refl _) hb, h.aw, boxed_below h.bx hb h.bx.lt, h.hbb, h.row.of_block (hb.block _ h.row.lt), Nat.le_trans h.size hb.size, h.below.trans (hb.mono h.below.size),
   h.kf.trans ((keepsOthers_below hb).from _), h.kb.trans (KeepsBox.of_below hb h.below.size (by have := h.size; omega))⟩

theorem OSt.drew (h : OSt w Wst K L mv bb f r T W) : OSt w Wst K L mv bb f r T W.drew := h.of_below ⟨rfl, rfl, rfl, Nat.le_refl _, fun _ _ => rfl⟩

theorem Ints.setAway {W : World} {v : Value} {xs : List Int} {b j : Nat} {u : Value} (h : Ints W v xs) (ha : Away b v) : Ints (W.setCell ⟨b, j, none⟩ u) v xs := by
  rcases h with h | ⟨c, off, cap, hv, hc, hlt, hcell⟩
  · exact .inl h
  · exact .inr ⟨c, off, cap, hv, hc, by simpa [World.setCell] using hlt, fun k hk => (World.cell?_of_block (w := W) (Below.heap_setCell _ _ _ _ (ha _ _ _ hv))).trans (hcell k hk)⟩

theorem keepsFrom_setCell (K : Nat) (W : World) (a : Addr) (v : Value) : KeepsFrom K W (W.setCell a v) := (KeepsOthers.setCell W a v).from K
theorem keepsBox_setCell {n₀ Bs : Nat} (W : World) (b j : Nat) (v : Value) (h1 : n₀ ≤ b) (h2 : b ≠ Bs) : KeepsBox n₀ Bs W (W.setCell ⟨b, j, none⟩ v) :=
  ⟨(Below.refl _ _).setCell (p := ⟨b, j, none⟩) h1 v, World.cell?_of_block (w := W) (Below.heap_setCell _ _ _ _ (by simpa using fun e => h2 e.symm))⟩
theorem size_setCell (W : World) (a : Addr) (v : Value) : (W.setCell a v).heap.size = W.heap.size := by simp [World.setCell]
theorem boxed_away {W : World} {B b j : Nat} {t : TypeId} {v : Value} (h : Boxed W B t v) (u : Value) (hne : B ≠ b) : Boxed (W.setCell ⟨b, j, none⟩ u) B t v := (Below.heap_setCell _ _ _ _ hne).trans h

theorem OSt.setRow (h : OSt w Wst K L mv bb f r T W) (x : Nat) (d : Int) : OSt w Wst K L mv bb (fun j => if j = x then d else f j) r T (W.setCell ⟨w.heap.size + 1 + 1 + 1, x, none⟩ (.int .i64 d)) := by
  have hbb := h.hbb
  refine ⟨boxed_away h.bm _ (by omega), boxed_away h.bq _ (by omega), boxed_away h.br _ (by omega), ?_, h.aw, boxed_away h.bx _ (by omega), h.hbb, (h.row.set x (.int .i64 d)).congr (fun i _ => by split <;> rfl), by rw [size_setCell]; exact h.size, h.below.setCell (by show w.heap.size ≤ w.heap.size + 1 + 1 + 1; omega) _,
    h.kf.trans (keepsFrom_setCell _ _ _ _), h.kb.trans (keepsBox_setCell _ _ _ _ (by omega) (by omega))⟩
  obtain ⟨xs, h1, h2⟩ := h.nr
  exact ⟨xs, h1.setAway h.aw, h2⟩

theorem OSt.setR (h : OSt w Wst K L mv bb f r T W) {r' : Value} {T' : Nat} (hn : Num W r' T') (haw : Away (w.heap.size + 1 + 1 + 1) r') (hr : ∀ i, r ≠ .int .i64 i) : OSt w Wst K L mv bb f r' T' (W.setCell ⟨w.heap.size + 1 + 1, 0, none⟩ r') := by
  have hbb := h.hbb
  exact ⟨boxed_away h.bm _ (by omega), boxed_away h.bq _ (by omega), h.br.set _, hn.setBox h.br hr _, haw, boxed_away h.bx _ (by omega), h.hbb, h.row.setOther (by show w.heap.size + 1 + 1 + 1 ≠ w.heap.size + 1 + 1; omega) _, by rw [size_setCell]; exact h.size, h.below.setCell (by show w.heap.size ≤ w.heap.size + 1 + 1; omega) _,
    h.kf.trans (keepsFrom_setCell _ _ _ _), h.kb.trans (keepsBox_setCell _ _ _ _ (by omega) (by omega))⟩
end

/-- The start of a round: the remainder with one more group, and the method value. -/
theorem OverInv.start {w W w1 : World} {xs : List Int} {m : Nat} {mv : Value} {pre : List (Fin xs.length)} (K : Nat) (h : OverInv w xs m mv pre W) (hb : Below W.heap.size W w1) {r1 : Value} {T : Nat} (hn : Num w1 r1 T) (haw : Away (w.heap.size + 1 + 1 + 1) r1) (hr0 : ∀ r, Boxed W (w.heap.size + 1 + 1) 89 r → ∀ i, r ≠ .int .i64 i) :
    OSt w W K xs.length mv w1.heap.size (ofold xs m pre).1 r1 T ((w1.setCell ⟨w.heap.size + 1 + 1, 0, none⟩ r1).alloc (.cells #[.func (.func 102) #[mv] #[]] 121)) := by
  obtain ⟨r, h1, h2, h3⟩ := h.br
  have s1 := h.size
  have s2 := hb.size
  have b1 := boxed_below h1 hb (by omega)
  have hbelow : Below w.heap.size w w1 := h.below.trans (hb.mono h.below.size)
  refine ⟨(boxed_away (boxed_below h.bm hb (by omega)) _ (by omega)).alloc _, (boxed_away (boxed_below h.bq hb (by omega)) _ (by omega)).alloc _, (b1.set _).alloc _, ?_, haw, ?_, by omega, ?_, ?_, ?_, ?_, ?_⟩
  · exact (hn.setBox b1 (hr0 r h1) _).below (Nat.le_refl _) ((Below.refl _ _).alloc (Nat.le_refl _) _)
  · have := Boxed.new (w1.setCell ⟨w.heap.size + 1 + 1, 0, none⟩ r1) 121 (.func (.func 102) #[mv] #[])
    rwa [size_setCell] at this
  · exact ((h.row.of_block (hb.block _ h.row.lt)).setOther (by show w.heap.size + 1 + 1 + 1 ≠ w.heap.size + 1 + 1; omega) _).alloc _
  · simp only [World.size_alloc, size_setCell]; omega
  · exact (hbelow.setCell (by show w.heap.size ≤ w.heap.size + 1 + 1; omega) _).alloc (by rw [size_setCell]; omega) _
  · exact (((keepsOthers_below hb).from _).trans (keepsFrom_setCell _ _ _ _)).trans ((KeepsOthers.alloc _ _).from _)
  · exact ((KeepsBox.of_below hb h.below.size (by omega)).trans (keepsBox_setCell _ _ _ _ (by omega) (by omega))).trans (KeepsBox.alloc _ (by rw [size_setCell]; omega) (by rw [size_setCell]; omega))

theorem OSt.inv {w Wst W : World} {K m : Nat} {xs : List Int} {mv : Value} {bb : Nat} {pre : List (Fin xs.length)} {r : Value} (h : OSt w Wst K xs.length mv bb (ofold xs m pre).1 r (ofold xs m pre).2 W) : OverInv w xs m mv pre W :=
  ⟨h.bm, h.bq, ⟨r, h.br, h.nr, h.aw⟩, h.row, h.size, h.below⟩

theorem search_quot {T m k : Nat} (hm : 0 < m) (hT : T / m ≤ 9999) (h1 : ∀ i, i < k → decide (T < m * (i + 1)) = false) (h2 : ∀ i, k ≤ i → i < 9999 → decide (T < m * (i + 1)) = true) : k = T / m := by
  have hdm := Nat.div_add_mod T m
  have hml := Nat.mod_lt T hm
  rcases Nat.lt_trichotomy k (T / m) with h | h | h
  · have := of_decide_eq_true (h2 k (Nat.le_refl _) (by omega))
    have h3 := Nat.mul_le_mul_left m (show k + 1 ≤ T / m from h)
    omega
  · exact h
  · have := of_decide_eq_false (h1 (T / m) h)
    rw [Nat.mul_add] at this
    omega

theorem setBlock_boxed {W : World} {B b j : Nat} {t : TypeId} {v : Value} (h : Boxed W B t v) (u : Value) (hne : B ≠ b) : Boxed (W.setCell ⟨b, j, none⟩ u) B t v := (Below.heap_setCell _ _ _ _ hne).trans h

set_option maxHeartbeats 1000000 in
theorem results_cells {fn : Func} {p q : Tmp} (h : fn.results = #[.cell p 89, .cell q 89]) (tmps : Array Value) (w : World) (g k : Nat) (u v : Value) (hp : tmps.getD p undef = .pointer (some ⟨g, 0, none⟩)) (hq : tmps.getD q undef = .pointer (some ⟨k, 0, none⟩)) (hg : w.cell? ⟨g, 0, none⟩ = some u) (hk : w.cell? ⟨k, 0, none⟩ = some v) :
    (results fn tmps).run Tryz.prog w = .ok (.tuple #[u, v]) w := by
  have hp' : tmps[p]?.getD undef = .pointer (some ⟨g, 0, none⟩) := by simpa using hp
  have hq' : tmps[q]?.getD undef = .pointer (some ⟨k, 0, none⟩) := by simpa using hq
  simp only [results, h]
  simp [hp', hq', asAddr]
  go_simp

/-- The end of 'over': both results lie in their cells. -/
theorem over_end {F : Fence} {n : Nat} {w W : World} {D a b : Nat} {q r : Value} (tmps : Array Value) (h4 : tmps.getD 4 undef = .pointer (some ⟨w.heap.size + 1, 0, none⟩)) (h5 : tmps.getD 5 undef = .pointer (some ⟨w.heap.size + 1 + 1, 0, none⟩)) (hK : W.heap[D]? = some (.deferred (some [])))
    (b1 : Boxed W (w.heap.size + 1) 89 q) (b2 : Boxed W (w.heap.size + 1 + 1) 89 r) (n1 : Num W q a) (n2 : Num W r b) (hB : Below w.heap.size w W) (hD : w.heap.size ≤ D) :
    bodyPostM F n Tryz.prog Tryz.f75 (fun e w' => ∃ q r, e = .returned (.tuple #[q, r]) ∧ Num w' q a ∧ Num w' r b ∧ Below w.heap.size w w') .ret { tmps := tmps, defers := [{ target := .collected D, args := #[] }] } W := by
  have hg := grownBy_putObj' W D (.deferred none)
  have hc : ∀ r, some D = some r → ∃ o : Obj, W.heap[r]? = some o ∧ o.isCells = false := fun r e => by cases e; exact ⟨_, hK, rfl⟩
  exact ⟨by simp, .inl ⟨_, _, rfl, run_takeDeferred hK, _, results_cells (by kernel_rfl) _ _ _ _ _ _ h4 h5 (boxed_kept' b1 hg hc).cell (boxed_kept' b2 hg hc).cell, _, _, rfl, n1.kept hg hc, n2.kept hg hc, hB.trans ⟨rfl, rfl, rfl, by simp [World.putObj], fun k hk => World.putObj_heap_other (by omega)⟩⟩⟩

set_option maxRecDepth 100000 in
set_option maxHeartbeats 4000000 in
theorem over_in (F : Fence) (n : Nat) (hf0 : F.fn 75) (hf1 : F.fn 100) (hf2 : F.fn 122) (_hf3 : F.fn 102) (_hf4 : F.fn 78) (hf5 : F.fn 101) (hf6 : F.fn 104) (hro : F.round = none) (hFw : Hid (F = Fence.wide)) (hn : 3 ≤ n)
    (hBy : ∀ (k : Nat) (v : Value) (a : Nat) (d : Int) (W : World), 0 ≤ d → d ≤ 9999 → Num W v a → Fits a → CallsIn F k Tryz.prog 102 #[v, .int .i64 d] W (NumPost W (a * d.toNat)))
    (hMi : ∀ (k : Nat) (v u : Value) (a b : Nat) (W : World), Num W v a → Num W u b → Fits a → b ≤ a → CallsIn F k Tryz.prog 78 #[v, u] W (NumPost W (a - b)))
    (hTr : ∀ (k : Nat) (v : Value) (zs : List Int) (W : World), zs.length ≤ 9223372036854775807 → Ints W v zs → CallsIn F k Tryz.prog 101 #[v] W (TrimPost v W zs))
    (hSe : ∀ (k : Nat) (g : Nat) (lb : Array Value) (p : Nat → Bool) (N : Nat) (W : World), Enters Tryz.prog g → N ≤ 100000 → (∀ (i : Nat) (W1 : World), i < N → Below W.heap.size W W1 → Calls Tryz.prog g (#[.int .i64 (i : Int)] ++ lb) W1 fun e w' => e = .returned (.bool (p i)) ∧ Below W1.heap.size W1 w') →
      (∀ i j, i ≤ j → j < N → p i = true → p j = true) → CallsIn F k Tryz.prog 104 #[.int .i64 (N : Int), .func (.func g) #[] lb] W (SearchPost p N W))
    (v u : Value) (a m : Nat) (w : World) (ha : Num w v a) (hm : Num w u m) (fa : Lim 400 a) (fm : Lim 400 m) (hm0 : 0 < m) :
    CallsIn F n Tryz.prog 75 #[v, u] w fun e w' => ∃ q r, e = .returned (.tuple #[q, r]) ∧ Num w' q (a / m) ∧ Num w' r (a % m) ∧ Below w.heap.size w w' := by
  obtain ⟨xs, ix, rx⟩ := ha
  have lx : xs.length ≤ 400 := Lim.length rx fa
  obtain ⟨ax, cx, rfl⟩ := ix.shape
  obtain ⟨am, lm, cm, rfl⟩ := hm.shape
  have h1 : 1 ≤ n := by omega
  have h11 : 1 ≤ n - 1 - 1 := by omega
  have FM := Lib.hid fm
  clear fa fm
  have hmk := fun W => run_make_row' (P := Tryz.prog) 89 3 (.int .i64 0) 8 Tryz.underlying89 info3 rfl .i64 .i64 xs.length (by omega) (by omega) W
  refine callsIn_of_wp_marks Tryz.func75 rfl hf0 ?_ hro
  simp only [Tryz.ntmps75, List.size_toArray, List.length_cons, List.length_nil, Nat.reduceAdd, Nat.reduceSub, Array.replicate_succ, Array.replicate_zero, List.push_toArray, List.append_toArray, List.nil_append, List.cons_append]
  gi_wp2_with (gi_at_call 100; go_must (refine (back_in F (n - 1) hf1 hro _ _ _ _).mono ?_); rintro e w' ⟨rfl, rfl⟩)
  obtain ⟨W0, hW0⟩ : ∃ W0, W0 = (((((w.alloc (.cells #[.slice am lm cm] 89)).alloc (.cells #[.slice (some ⟨w.heap.size + 1 + 1 + 1, 0, none⟩) xs.length xs.length] 89)).alloc (.cells #[.slice none 0 0] 89)).alloc (.cells (madeCells #[.int .i64 0] xs.length) 3)).alloc (.cells #[.slice ax xs.length cx] 89)) := ⟨_, rfl⟩
  have hB0 : Below w.heap.size w W0 := by rw [hW0]; exact (((((Below.refl _ w).alloc (Nat.le_refl _) _).alloc (by simp) _).alloc (by simp; omega) _).alloc (by simp; omega) _).alloc (by simp; omega) _
  have s0 : W0.heap.size = w.heap.size + 5 := by rw [hW0]; simp
  have b1 := Boxed.new w 89 (.slice am lm cm)
  have b2 := Boxed.new (w.alloc (.cells #[.slice am lm cm] 89)) 89 (.slice (some ⟨w.heap.size + 1 + 1 + 1, 0, none⟩) xs.length xs.length)
  have b3 := Boxed.new ((w.alloc (.cells #[.slice am lm cm] 89)).alloc (.cells #[.slice (some ⟨w.heap.size + 1 + 1 + 1, 0, none⟩) xs.length xs.length] 89)) 89 (.slice none 0 0)
  have b4 := World.rowIs_made (((w.alloc (.cells #[.slice am lm cm] 89)).alloc (.cells #[.slice (some ⟨w.heap.size + 1 + 1 + 1, 0, none⟩) xs.length xs.length] 89)).alloc (.cells #[.slice none 0 0] 89)) (.int .i64 0) xs.length 3
  have b5 := Boxed.new ((((w.alloc (.cells #[.slice am lm cm] 89)).alloc (.cells #[.slice (some ⟨w.heap.size + 1 + 1 + 1, 0, none⟩) xs.length xs.length] 89)).alloc (.cells #[.slice none 0 0] 89)).alloc (.cells (madeCells #[.int .i64 0] xs.length) 3)) 89 (.slice ax xs.length cx)
  simp only [World.size_alloc] at b2 b3 b4 b5
  have b1 := (((b1.alloc (.cells #[.slice (some ⟨w.heap.size + 1 + 1 + 1, 0, none⟩) xs.length xs.length] 89)).alloc (.cells #[.slice none 0 0] 89)).alloc (.cells (madeCells #[.int .i64 0] xs.length) 3)).alloc (.cells #[.slice ax xs.length cx] 89)
  have b2 := ((b2.alloc (.cells #[.slice none 0 0] 89)).alloc (.cells (madeCells #[.int .i64 0] xs.length) 3)).alloc (.cells #[.slice ax xs.length cx] 89)
  have b3 := (b3.alloc (.cells (madeCells #[.int .i64 0] xs.length) 3)).alloc (.cells #[.slice ax xs.length cx] 89)
  have b4 := b4.alloc (.cells #[.slice ax xs.length cx] 89)
  rw [← hW0] at b1 b2 b3 b4 b5 ⊢
  clear hW0 hmk
  refine wpIn_rangeFunc_ownG hro h1 (gf := 122) (lb := #[.pointer (some ⟨w.heap.size + 1 + 1 + 1 + 1, 0, none⟩)]) rfl hf2 (enters_of Tryz.func122 (by kernel_rfl) rfl)
    (back_stops F (n - 1) hf2 hro (by omega) (w.heap.size + 1 + 1 + 1 + 1) w.heap.size _ xs (by omega) W0 (by omega) b5.cell w (Nat.le_refl _) hB0 ix) keepsBox_t (keepsBox_b (by omega) (by omega)) (Below.refl _ _) (fun _ => rfl)
    (fun pre W => OverInv w xs m (.slice am lm cm) pre W) (fun _ _ _ => False) (OverInv.own (by omega)) (fun _ _ _ _ _ hs _ _ => hs)
    ⟨b1, b2, ⟨_, b3, ⟨[], Ints.nil _, ⟨Dgs.nil _, Nrm.nil, rfl⟩⟩, Away.nil _⟩, b4, by omega, hB0⟩
    (fun x => { tmps := #[.slice ax xs.length cx, .slice am lm cm, undef, .pointer (some ⟨w.heap.size, 0, none⟩), .pointer (some ⟨w.heap.size + 1, 0, none⟩), .pointer (some ⟨w.heap.size + 1 + 1, 0, none⟩), .int .i64 (x.val : Int), .int .i64 (grp xs x), undef, undef, .slice ax xs.length cx, .int .i64 xs.length, .slice (some ⟨w.heap.size + 1 + 1 + 1, 0, none⟩) xs.length xs.length, .slice ax xs.length cx,
      .func (.func 122) #[] #[.pointer (some ⟨w.heap.size + 1 + 1 + 1 + 1, 0, none⟩)], .int .i64 (x.val : Int), .int .i64 (grp xs x), undef, undef, undef, undef, undef, undef, undef, undef, undef, undef, undef, undef, undef, undef, undef, undef, undef, undef, undef, undef, undef, undef, undef, undef], defers := [] }) ?assign ?body ?done ?stop
  case assign =>
    intro l x W K hK
    gi_wp2
    exact hK
  case body =>
    rintro l pre x W ⟨hbm, hbq, ⟨rv, hbr, ⟨zs, iz, rz⟩, haw0⟩, hrow, hsz, hB⟩ hlt
    have mixed : Tryz.prog.follows .mixedOrders = true := by kernel_rfl
    have hmf : ∀ (fn : Fn) (first cap : Array Value) (w : World), (Instr.makeFunc fn first cap).run Tryz.prog w = .ok (.func fn first cap) w := fun _ _ _ _ => rfl
    have hRm := ofold_lt xs hm0 pre
    have hx := rx.good _ (List.getElem_mem x.isLt)
    have hlz : zs.length ≤ 400 := Lim.length rz (FM.out.le (Nat.le_of_lt hRm))
    obtain ⟨ar, cr, rfl⟩ := iz.shape
    have hcr := (hbr.alloc (.cells #[.int .i64 (grp xs x)] 3)).cell
    have HM := Lib.hid hm
    have HI := Lib.hid iz
    have HA := Lib.hid haw0
    have HBR := Lib.hid hbr
    have HBM := Lib.hid hbm
    have hgr := grp_small rx.good x
    have HD : Hid (Dgs 10000 (grp xs x :: zs)) := Dgs.cons hx.1 hx.2 rz.good
    have HV : Hid (val 10000 (grp xs x :: zs) = (((grp xs x).toNat + 10000 * (ofold xs m pre).2 : Nat) : Int)) := by show _ = _; rw [val_cons, rz.val]; omega
    have HGR := Lib.hid hgr
    clear hm iz hx hgr haw0
    gi_wp2_with (first
      | (gi_at_builtin; go_must (refine wpListIn_append_src _ rfl _ _ 89 rfl W.heap.size Tryz.underlying89 _ 1 [.int .i64 (grp xs x)] rfl (ownsRow_lit W _) _ zs rfl (HI.out.boxed _) (by omega) (by omega) (by simp) ?_); intro v' w1 hown' hgrow; have hg2 : Below W.heap.size W w1 := ((Below.refl _ W).alloc (Nat.le_refl _) _).grown hgrow (by simp) (fun k e => by cases e; exact Nat.le_refl _); have hbr1 := boxed_below HBR.out hg2 HBR.out.lt; have hcr1 := hbr1.cell; have hfr1 := hbr1.frozen; have hbm1 := boxed_below HBM.out hg2 HBM.out.lt; have hcm1 := hbm1.cell)
      | (gi_at_call 101; go_must (refine (CallsIn.inRound l (hTr _ _ (grp xs x :: zs) _ (by simp; omega) (ownsRow_ints (B := W.heap.size) (by have h := hown'; rw [show 1 + zs.length = zs.length + 1 by omega] at h; exact h)))).mono ?_); rintro e w' ⟨r1, k1, rfl, hcut, hi1, haw1, rfl⟩; have hn1 : Num w1 r1 ((grp xs x).toNat + 10000 * (ofold xs m pre).2) := num_of_trim HD.out HV.out hcut hi1; obtain ⟨ar1, lr1, cr1, rfl⟩ := hn1.shape))
    have hawr := haw1 (w.heap.size + 1 + 1 + 1) (away_own hown' _ (by omega))
    have S1 := OverInv.start W0.heap.size ⟨HBM.out, hbq, ⟨_, HBR.out, ⟨zs, HI.out, rz⟩, HA.out⟩, hrow, hsz, hB⟩ hg2 hn1 hawr (fun r hr i e => by
      have := HBR.out.cell.symm.trans hr.cell
      rw [e] at this; cases this)
    have hbbn := w1.heap.size
    generalize hW2 : ((w1.setCell ⟨w.heap.size + 1 + 1, 0, none⟩ (.slice ar1 lr1 cr1)).alloc (.cells #[.func (.func 102) #[.slice am lm cm] #[]] 121)) = W2 at S1 ⊢
    clear hW2 hcm1 hbm1 hcr1 hfr1 hbr1 hg2 hown' hgrow hn1 hawr haw1 hcut hi1 hcr HD HV
    have hT : ((grp xs x).toNat + 10000 * (ofold xs m pre).2) / m ≤ 9999 := odigit_lt rx.good hm0 pre x
    have hst : ofold xs m (pre ++ [x]) = ostep xs m (ofold xs m pre) x := ofold_snoc xs m pre x
    have hTl : Lim 402 ((grp xs x).toNat + 10000 * (ofold xs m pre).2) := lim_two (FM.out.le (Nat.le_of_lt hRm)) HGR.out.1
    unfold ostep at hst
    generalize hTT : (grp xs x).toNat + 10000 * (ofold xs m pre).2 = T at S1 hT hst hTl
    have HST := Lib.hid hst
    clear hTT hst HGR hRm
    have hSearch : Hid (∀ (k : Nat) (W3 : World), Below W2.heap.size W2 W3 → CallsIn F k Tryz.prog 104 #[.int .i64 9999, .func (.func 103) #[] #[.pointer (some ⟨w1.heap.size, 0, none⟩), .pointer (some ⟨w.heap.size + 1 + 1, 0, none⟩)]] W3 fun e w' => e = .returned (.int .i64 ((T / m : Nat) : Int)) ∧ Below W3.heap.size W3 w') := by
      intro k W3 hb3
      refine (hSe k 103 _ (fun i => decide (T < m * (i + 1))) 9999 W3 (enters_of Tryz.func103 (by kernel_rfl) rfl) (by omega) (fun i W4 hi hb4 => ?_) (fun i j hij hj h => ?_)).mono ?_
      · have S4 := S1.of_below (hb3.trans (hb4.mono hb3.size))
        exact over1_any _ _ (.slice am lm cm) _ m T i W4 hi (HM.out.below (Nat.le_refl _) S4.below) S4.nr (FM.out.fits (by omega)) ((FM.out.mul (k := 1) (by rw [Lim.iff]; omega)).fits (by omega)) S4.bx.cell S4.br.cell
      · have := of_decide_eq_true h
        have h3 := Nat.mul_le_mul_left m (show i + 1 ≤ j + 1 by omega)
        exact decide_eq_true (by omega)
      · rintro e w' ⟨k, hk, rfl, h1, h2, hb⟩
        exact ⟨by rw [search_quot hm0 hT h1 h2], hb⟩
    have HBY : Hid (∀ (k : Nat) (W3 : World), Below w.heap.size w W3 → CallsIn F k Tryz.prog 102 #[.slice am lm cm, .int .i64 ((T / m : Nat) : Int)] W3 (NumPost W3 (m * (T / m)))) := by
      intro k W3 hb3
      have := hBy k (.slice am lm cm) m ((T / m : Nat) : Int) W3 (Int.natCast_nonneg _) (Int.ofNat_le.2 hT) (HM.out.below (Nat.le_refl _) hb3) (FM.out.fits (by omega))
      rwa [Int.toNat_natCast] at this
    have HTF := Lib.hid (hTl.fits (by omega))
    have HMD : Hid (m * (T / m) ≤ T ∧ T - m * (T / m) = T % m) := by have := Nat.div_add_mod T m; exact ⟨by omega, by omega⟩
    obtain ⟨d, hd⟩ : ∃ d, d = T / m := ⟨_, rfl⟩
    rw [← hd] at hSearch HBY HMD hT HST
    have HDD := Lib.hid hd
    clear hd hTl
    have hxl := x.isLt
    have hc2q := S1.bq.cell
    gi_cut [] from 25 (fun wc => OSt w W W0.heap.size xs.length (.slice am lm cm) w1.heap.size (fun j => if j = x.val then (d : Int) else (ofold xs m pre).1 j) (.slice ar1 lr1 cr1) T wc)
    case first =>
      rename_i J K' hJ hK'
      gi_region_with_o ((gi_at_call 104; go_must (refine (CallsIn.inRound l (hSearch.out _ _ (by first | exact Below.refl _ _ | exact (Below.refl _ _).drew))).mono ?_); rintro e w3 ⟨rfl, hb3⟩; have S3 := S1.of_below (W' := w3) ⟨hb3.os, hb3.tape, hb3.output, hb3.size, hb3.block⟩; have c3q := S3.bq.cell; have c3row := S3.row.cell x.isLt; have f3 := S3.row.frozen x.val))
      all_goals
        refine (show K' _ _ from hK' _ _ (Met.intro (hJ _ _ ?_)))
        (repeat apply Exists.intro)
        refine ⟨?_, rfl⟩
        exact S3.setRow x.val (d : Int)
    case rest =>
      have S4 := hcut
      clear hcut hSearch S1
      have c4r := S4.br.cell
      have c4b := S4.bx.cell
      have c4q := S4.bq.cell
      have c4x := S4.row.cell x.isLt
      rw [if_pos rfl] at c4x
      gi_wp2
      have HMI : Hid (∀ (k : Nat) (v u : Value) (a b : Nat) (W : World), Num W v a → Num W u b → Fits a → b ≤ a → CallsIn F k Tryz.prog 78 #[v, u] W (NumPost W (a - b))) := hMi
      clear b1 b2 b3 b4 b5 hbm hbq hbr hrow hsz hB HA HI HBR HBM hc2q hlz hmf hT hlt rx rz hB0 s0 lx hBy hMi hTr hSe hf0 hf1 hf2 hf5 hf6 HM FM ix hm0 h1 h11 hn HDD c4r c4b c4q c4x
      have hFw2 := hFw.out
      clear hFw
      subst hFw2
      replace S4 := S4.drew
      have c4r := S4.br.cell
      have c4b := S4.bx.cell
      have c4q := S4.bq.cell
      have c4x := S4.row.cell x.isLt
      rw [if_pos rfl] at c4x
      refine region_round (fun w' => w'.cell? ⟨w.heap.size + 1, 0, none⟩ = some (.slice (some ⟨w.heap.size + 1 + 1 + 1, 0, none⟩) xs.length xs.length) ∧ w'.cell? ⟨w1.heap.size, 0, none⟩ = some (.func (.func 102) #[.slice am lm cm] #[]) ∧ w'.cell? ⟨w.heap.size + 1 + 1 + 1, x.val, none⟩ = some (.int .i64 (d : Int))) mixed (by kernel_rfl) (fun ⟨_, _, h⟩ => h) ?_
      generalize wc.drew = wd at S4 c4r c4b c4q c4x ⊢
      refine wpAnyH_take (i := 1) (v := .func (.func 102) #[.slice am lm cm] #[]) rfl (by kernel_rfl) (by kernel_rfl) (by kernel_rfl) (fun _ _ _ h => h) (Or.inl ⟨by rfl, fun w' hw => by obtain ⟨h1, h2, h3⟩ := hw; go_simp⟩) ⟨c4q, c4b, c4x⟩ ?_
      simp only [Act.put]
      refine wpAnyH_take (i := 2) (v := .slice (some ⟨w.heap.size + 1 + 1 + 1, 0, none⟩) xs.length xs.length) rfl (by kernel_rfl) (by kernel_rfl) (by kernel_rfl) (fun _ _ _ h => h) (Or.inl ⟨by rfl, fun w' hw => by obtain ⟨h1, h2, h3⟩ := hw; go_simp⟩) ⟨c4q, c4b, c4x⟩ ?_
      simp only [Act.put]
      refine wpAnyH_take (i := 3) (v := .int .i64 (x.val : Int)) rfl (by kernel_rfl) (by kernel_rfl) (by kernel_rfl) (fun _ _ _ h => h) (Or.inl ⟨by rfl, fun w' hw => by obtain ⟨h1, h2, h3⟩ := hw; go_simp⟩) ⟨c4q, c4b, c4x⟩ ?_
      simp only [Act.put]
      refine wpAnyH_take (i := 4) (v := .pointer (some ⟨w.heap.size + 1 + 1 + 1, x.val, none⟩)) rfl (by kernel_rfl) (by kernel_rfl) (by kernel_rfl) (fun _ _ _ h => h) (Or.inl ⟨by rfl, fun w' hw => by obtain ⟨h1, h2, h3⟩ := hw; go_simp⟩) ⟨c4q, c4b, c4x⟩ ?_
      simp only [Act.put]
      refine wpAnyH_take (i := 5) (v := .int .i64 (d : Int)) rfl (by kernel_rfl) (by kernel_rfl) (by kernel_rfl) (fun _ _ _ h => h) (Or.inl ⟨by rfl, fun w' hw => by obtain ⟨h1, h2, h3⟩ := hw; go_simp⟩) ⟨c4q, c4b, c4x⟩ ?_
      simp only [Act.put]
      refine wpAnyH_all (rs := [0, 6]) (by kernel_rfl) (by simp) ?_
      intro i hi
      rcases (show i = 0 ∨ i = 6 by simpa using hi) with rfl | rfl
      · skip
        refine wpOp_step rfl (fun K hK => ?_)
        go_simp
        refine hK _ _ ⟨⟨c4q, c4b, c4x⟩, ?_⟩
        clear hK K
        refine wpAnyH_all (rs := [6]) (by kernel_rfl) (by simp) ?_
        rintro i hi
        obtain rfl : i = 6 := by simpa using hi
        refine wpOp_step rfl (fun K hK => ?_)
        go_simp
        refine (callsIn_wide.1 (HBY.out 0 _ S4.below)).mono ?_
        rintro e w5 ⟨pv, rfl, hpv, _, hb5⟩
        obtain ⟨pa, pl, pc, rfl⟩ := hpv.shape
        have S5 := S4.of_below (W' := w5) ⟨hb5.os, hb5.tape, hb5.output, hb5.size, hb5.block⟩
        have c5r := S5.br.cell
        refine hK _ _ ⟨⟨S5.bq.cell, S5.bx.cell, (S5.row.cell x.isLt).trans (by rw [if_pos rfl])⟩, ?_⟩
        clear hK K
        refine wpAnyH_all (rs := [7]) (by kernel_rfl) (by simp) ?_
        rintro i hi
        obtain rfl : i = 7 := by simpa using hi
        refine wpOp_step rfl (fun K hK => ?_)
        go_simp
        refine (callsIn_wide.1 (HMI.out 0 _ _ _ _ _ S5.nr hpv HTF.out HMD.out.1)).mono ?_
        rintro e w6 ⟨rv6, rfl, hr6, haw6, hb6⟩
        obtain ⟨ra6, rl6, rc6, rfl⟩ := hr6.shape
        have S6 := S5.of_below hb6
        have c6r := S6.br.cell
        have f6r := S6.br.frozen
        have S7 := S6.setR hr6 (haw6 _ (by have := S5.size; omega)) (fun i e => by cases e)
        refine hK _ _ ⟨⟨S6.bq.cell, S6.bx.cell, (S6.row.cell x.isLt).trans (by rw [if_pos rfl])⟩, ?_⟩
        clear hK K
        refine wpAnyH_all (rs := [8]) (by kernel_rfl) (by simp) ?_
        rintro i hi
        obtain rfl : i = 8 := by simpa using hi
        refine wpOp_step rfl (fun K hK => ?_)
        go_simp
        refine hK _ _ ⟨⟨S7.bq.cell, S7.bx.cell, (S7.row.cell x.isLt).trans (by rw [if_pos rfl])⟩, ?_⟩
        clear hK K
        refine wpAnyH_done (by kernel_rfl) ?_ _
        rw [HMD.out.2] at S7
        exact ⟨S7.kf, S7.kb, OSt.inv (pre := pre ++ [x]) (by rw [HST.out]; exact S7)⟩
      · skip
        refine wpOp_step rfl (fun K hK => ?_)
        go_simp
        refine (callsIn_wide.1 (HBY.out 0 _ S4.below)).mono ?_
        rintro e w5 ⟨pv, rfl, hpv, _, hb5⟩
        obtain ⟨pa, pl, pc, rfl⟩ := hpv.shape
        have S5 := S4.of_below (W' := w5) ⟨hb5.os, hb5.tape, hb5.output, hb5.size, hb5.block⟩
        have c5r := S5.br.cell
        refine hK _ _ ⟨⟨S5.bq.cell, S5.bx.cell, (S5.row.cell x.isLt).trans (by rw [if_pos rfl])⟩, ?_⟩
        clear hK K
        refine wpAnyH_all (rs := [0]) (by kernel_rfl) (by simp) ?_
        rintro i hi
        obtain rfl : i = 0 := by simpa using hi
        refine wpOp_step rfl (fun K hK => ?_)
        go_simp
        refine hK _ _ ⟨⟨S5.bq.cell, S5.bx.cell, (S5.row.cell x.isLt).trans (by rw [if_pos rfl])⟩, ?_⟩
        clear hK K
        refine wpAnyH_all (rs := [7]) (by kernel_rfl) (by simp) ?_
        rintro i hi
        obtain rfl : i = 7 := by simpa using hi
        refine wpOp_step rfl (fun K hK => ?_)
        go_simp
        refine (callsIn_wide.1 (HMI.out 0 _ _ _ _ _ S5.nr hpv HTF.out HMD.out.1)).mono ?_
        rintro e w6 ⟨rv6, rfl, hr6, haw6, hb6⟩
        obtain ⟨ra6, rl6, rc6, rfl⟩ := hr6.shape
        have S6 := S5.of_below hb6
        have c6r := S6.br.cell
        have f6r := S6.br.frozen
        have S7 := S6.setR hr6 (haw6 _ (by have := S5.size; omega)) (fun i e => by cases e)
        refine hK _ _ ⟨⟨S6.bq.cell, S6.bx.cell, (S6.row.cell x.isLt).trans (by rw [if_pos rfl])⟩, ?_⟩
        clear hK K
        refine wpAnyH_all (rs := [8]) (by kernel_rfl) (by simp) ?_
        rintro i hi
        obtain rfl : i = 8 := by simpa using hi
        refine wpOp_step rfl (fun K hK => ?_)
        go_simp
        refine hK _ _ ⟨⟨S7.bq.cell, S7.bx.cell, (S7.row.cell x.isLt).trans (by rw [if_pos rfl])⟩, ?_⟩
        clear hK K
        refine wpAnyH_done (by kernel_rfl) ?_ _
        rw [HMD.out.2] at S7
        exact ⟨S7.kf, S7.kb, OSt.inv (pre := pre ++ [x]) (by rw [HST.out]; exact S7)⟩
  case done =>
    rintro D zs W hD hzs hI hK
    have hv := ofold_val rx.good xs.length zs (Nat.le_refl _) hzs (m := m)
    rw [Nat.sub_self, List.drop_zero, List.drop_zero, rx.val] at hv
    have hdg := digitsOf_dgs (L := xs.length) (ofold_dgs rx.good hm0 zs)
    have hRm := ofold_lt xs hm0 zs
    obtain ⟨r, hbr, hnr, hawr⟩ := hI.br
    have hrow := hI.row
    have hq0 := (val_bounds (B := 10000) (by decide) hdg).1
    have hids : Ints W (.slice (some ⟨w.heap.size + 1 + 1 + 1, 0, none⟩) xs.length xs.length) (digitsOf xs.length (ofold xs m zs).1) := by
      refine .inr ⟨_, 0, xs.length, by rw [digitsOf_length], by rw [digitsOf_length]; exact Nat.le_refl _, hrow.lt, fun j hj => ?_⟩
      rw [digitsOf_length] at hj
      rw [Nat.zero_add, hrow.cell hj, digitsOf_get _ _ _ hj]
    generalize hds : digitsOf xs.length (ofold xs m zs).1 = ds at hv hdg hq0 hids
    have hdl : ds.length = xs.length := by rw [← hds, digitsOf_length]
    obtain ⟨R, hR⟩ : ∃ R, R = (ofold xs m zs).2 := ⟨_, rfl⟩
    rw [← hR] at hv hRm hnr
    obtain ⟨Q, hQ⟩ : ∃ Q : Nat, val 10000 ds = (Q : Int) := ⟨(val 10000 ds).toNat, by omega⟩
    rw [hQ] at hv
    have hdm : a / m = Q ∧ a % m = R := by
      have e : a = R + m * Q := by
        have h6 : ((Q * m : Nat) : Int) = (Q : Int) * (m : Int) := Int.natCast_mul Q m
        rw [Nat.mul_comm m Q]
        omega
      rw [e, Nat.add_mul_div_left _ _ hm0, Nat.add_mul_mod_self_left, Nat.div_eq_of_lt hRm, Nat.mod_eq_of_lt hRm]
      exact ⟨by omega, rfl⟩
    obtain ⟨ar, lr, cr, rfl⟩ := hnr.shape
    have cq := hI.bq.cell
    have fq := hI.bq.frozen
    have cr5 := hbr.cell
    have fr5 := hbr.frozen
    have HDM := Lib.hid hdm
    have HNR := Lib.hid hnr
    have HDG := Lib.hid hdg
    have HQ := Lib.hid hQ
    have HID := Lib.hid hids
    have HAW := Lib.hid hawr
    have HII := Lib.hid hI
    have hsz := hI.size
    have mixed : Tryz.prog.follows .mixedOrders = true := by kernel_rfl
    clear hv hdm hnr hdg hQ hids hawr hds hI hrow hq0 hzs
    gi_wp2
    gi_region_with_o ((gi_at_call 101; go_must (refine (hTr _ _ ds _ (by omega) (by first | exact HID.out | exact HID.out.below (Nat.le_refl _) ⟨rfl, rfl, rfl, Nat.le_refl _, fun _ _ => rfl⟩)).mono ?_); rintro e w' ⟨r', k', rfl, hc', hi', haw', rfl⟩; obtain ⟨ar', cr', rfl⟩ := hi'.shape))
    all_goals gi_wp2
    all_goals
      have hK2 : ∀ (B : Nat) (u : Value), B < D → (W.setCell ⟨B, 0, none⟩ u).heap[D]? = some (.deferred (some [])) := fun B u h => (Below.heap_setCell _ _ _ _ (by show D ≠ B; omega)).trans hK
      have hDs : W0.heap.size ≤ D := hD
      have N1 := num_of_trim HDG.out HQ.out hc' hi'
      rw [List.length_take] at N1 haw'
      rw [hdl] at N1
      have B0 := boxed_away (j := 0) hbr (.slice ar' (min k' xs.length) cr') (show w.heap.size + 1 + 1 ≠ w.heap.size + 1 by omega)
      have B1 := boxed_away (j := 0) (HII.out.bq.set (.slice ar' (min k' xs.length) cr')) (.slice ar lr cr) (show w.heap.size + 1 ≠ w.heap.size + 1 + 1 by omega)
      have B2 := B0.set (.slice ar lr cr)
      have N1a := (show Num W _ _ from N1).setBox HII.out.bq (fun i e => by cases e) (.slice ar' (min k' xs.length) cr')
      have N1b := N1a.setBox B0 (fun i e => by cases e) (.slice ar lr cr)
      have N2a := HNR.out.setBox HII.out.bq (fun i e => by cases e) (.slice ar' (min k' xs.length) cr')
      have N2b := N2a.setBox B0 (fun i e => by cases e) (.slice ar lr cr)
      have HBB := (HII.out.below.setCell (p := ⟨w.heap.size + 1, 0, none⟩) (by show w.heap.size ≤ w.heap.size + 1; omega) (.slice ar' (min k' xs.length) cr')).setCell (p := ⟨w.heap.size + 1 + 1, 0, none⟩) (by show w.heap.size ≤ w.heap.size + 1 + 1; omega) (.slice ar lr cr)
      have hKf : ((W.setCell ⟨w.heap.size + 1, 0, none⟩ (.slice ar' (min k' xs.length) cr')).setCell ⟨w.heap.size + 1 + 1, 0, none⟩ (.slice ar lr cr)).heap[D]? = some (.deferred (some [])) :=
        (Below.heap_setCell _ _ _ _ (by show D ≠ w.heap.size + 1 + 1; omega)).trans (hK2 _ _ (by omega))
      rw [HDM.out.1, HDM.out.2]
      exact over_end _ rfl rfl hKf B1 B2 N1b N2b (HBB.trans ⟨rfl, rfl, rfl, Nat.le_refl _, fun _ _ => rfl⟩) (by omega)
  case stop =>
    rintro D c pre W _ _ h _
    exact h.elim

/-- 'over'. -/
theorem over_any (v u : Value) (a m : Nat) (w : World) (ha : Num w v a) (hm : Num w u m) (fa : Lim 400 a) (fm : Lim 400 m) (hm0 : 0 < m) :
    Calls Tryz.prog 75 #[v, u] w fun e w' => ∃ q r, e = .returned (.tuple #[q, r]) ∧ Num w' q (a / m) ∧ Num w' r (a % m) ∧ Below w.heap.size w w' :=
  callsIn_wide.1 (over_in Fence.wide 3 trivial trivial trivial trivial trivial trivial trivial rfl rfl (Nat.le_refl _) (fun _ v a d W h0 h1 hv hf => callsIn_wide.2 (by_any v a d h0 h1 W hv hf)) (fun _ v u a b W hv hu fa hab => callsIn_wide.2 (minus_any v u a b W hv hu fa hab))
    (fun _ _ _ W hl hi => callsIn_wide.2 (trimmed_any W hl hi)) (fun _ g lb p N W hg hN hp hm => callsIn_wide.2 (search_any g lb p N W hg hN hp hm)) v u a m w ha hm fa fm hm0)

end Go.Proofs.Tryz
