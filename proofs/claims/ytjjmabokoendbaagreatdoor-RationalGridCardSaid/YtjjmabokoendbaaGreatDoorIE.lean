/- Plain: how the digits of a number are put together from its groups.
strings.Builder's copyCheck and WriteString, walked at this program's own bodies.
'text': an integer as a string.
'text', the walk. -/
import Derived.Test.YtjjmabokoendbaaGreatDoorPA
import Derived.Test.YtjjmabokoendbaaGreatDoorIB
import Derived.Test.YtjjmabokoendbaaGreatDoorIA
import Derived.Shelf.Strings.BuilderK
import Derived.Test.YtjjmabokoendbaaGreatDoorShelf
import Derived.Lib.QuietBelow
import Derived.Laws.EntriesVeiled
import Derived.Lib.AppendIntMem
namespace Go.Proofs.Tryz
open Go.RowKit Go.Proofs.Dt
open Go.Lib (decDigits)

/-- What one round of 'text' writes. -/
def piece (xs : List Int) (x : Fin xs.length) : List UInt8 := if x.val < xs.length - 1 then pad4 (grp xs x).toNat else decDigits (grp xs x).toNat

/-- What the rounds so far have written. -/
def pieces (xs : List Int) (pre : List (Fin xs.length)) : List UInt8 := pre.flatMap (piece xs)

theorem pieces_nil (xs : List Int) : pieces xs [] = [] := rfl
theorem pieces_snoc (xs : List Int) (pre : List (Fin xs.length)) (x : Fin xs.length) : pieces xs (pre ++ [x]) = pieces xs pre ++ piece xs x := by simp [pieces]

theorem pieces_val {xs : List Int} (hg : Dgs 10000 xs) (hn : Nrm xs) : ∀ (k : Nat) (pre : List (Fin xs.length)), 1 ≤ k → k ≤ xs.length → pre.map Fin.val = dn xs.length k →
    ∃ N : Nat, N ≠ 0 ∧ val 10000 (xs.drop (xs.length - k)) = (N : Int) ∧ pieces xs pre = decDigits N := by
  intro k
  induction k with
  | zero => intro pre h; omega
  | succ k ih =>
    intro pre _ hk h
    have hne : pre ≠ [] := by intro e; subst e; simp [dn] at h
    obtain ⟨ini, x, rfl⟩ : ∃ m x, pre = m ++ [x] := ⟨pre.dropLast, pre.getLast hne, (List.dropLast_concat_getLast hne).symm⟩
    rw [dn_succ, List.map_append] at h
    obtain ⟨h1, h2⟩ := List.append_inj' h rfl
    have hx : x.val = xs.length - 1 - k := by simpa using h2
    have hgx : 0 ≤ grp xs x ∧ grp xs x < 10000 := hg _ (List.getElem_mem x.isLt)
    have hgn : ((grp xs x).toNat : Int) = grp xs x := by omega
    rw [drop_cons (l := xs) (by omega), val_cons, show xs.length - (k + 1) = x.val by omega, grp_eq, show x.val + 1 = xs.length - k by omega, pieces_snoc]
    by_cases hk0 : k = 0
    · subst hk0
      have : ini = [] := by simpa [dn] using h1
      subst this
      rw [Nat.sub_zero, List.drop_length, val_nil, pieces_nil, List.nil_append]
      have hg0 : grp xs x ≠ 0 := by
        intro e
        apply hn
        have hlt := x.isLt
        rw [List.getLast?_eq_getElem?, show xs.length - 1 = x.val by omega, List.getElem?_eq_getElem hlt]
        exact congrArg some e
      refine ⟨(grp xs x).toNat, by omega, by omega, ?_⟩
      unfold piece
      rw [if_neg (by omega)]
    · obtain ⟨N, hN0, hNv, hNp⟩ := ih ini (by omega) (by omega) h1
      refine ⟨N * 10000 + (grp xs x).toNat, by omega, by rw [hNv]; omega, ?_⟩
      rw [hNp, decDigits_pad4 hN0 (by omega)]
      unfold piece
      rw [if_pos (by omega)]

theorem pieces_all {xs : List Int} {n : Nat} (h : RepN 10000 xs n) (h0 : n ≠ 0) {pre : List (Fin xs.length)} (hp : pre.map Fin.val = dn xs.length xs.length) : pieces xs pre = decDigits n := by
  have hl : xs ≠ [] := fun e => h0 ((h.pos (by decide)).1 e)
  obtain ⟨N, _, hv, hd⟩ := pieces_val h.good h.norm xs.length pre (List.length_pos_iff.2 hl) (Nat.le_refl _) hp
  rw [Nat.sub_self, List.drop_zero, h.val] at hv
  rw [hd]
  congr 1
  omega

theorem piece_length {xs : List Int} (hg : Dgs 10000 xs) (x : Fin xs.length) : (piece xs x).length ≤ 4 := by
  have hgx : 0 ≤ grp xs x ∧ grp xs x < 10000 := hg _ (List.getElem_mem x.isLt)
  unfold piece
  split
  · rw [pad4_length (by omega)]; exact Nat.le_refl _
  · exact (decDigits_length_le _ 4 (by decide)).2 (by show (grp xs x).toNat < 10000; omega)
theorem pieces_length {xs : List Int} (hg : Dgs 10000 xs) (pre : List (Fin xs.length)) : (pieces xs pre).length ≤ 4 * pre.length := by
  induction pre with
  | nil => simp [pieces]
  | cons x r ih =>
    have h := piece_length hg x
    unfold pieces at ih ⊢
    rw [List.flatMap_cons, List.length_append, List.length_cons]
    omega

/-- What 'text' returns. -/
def textS (neg : Bool) (n : Nat) : List UInt8 × Int :=
  if n = 0 then ([48], 0) else if 200 < (decDigits n).length then ([], 30) else (if neg then 45 :: decDigits n else decDigits n, 0)

theorem textS_res (neg : Bool) (n : Nat) : textS neg n = res (if neg then -(n : Int) else n) := by
  unfold textS res
  by_cases h0 : n = 0
  · subst h0
    have hl : (0 : Nat) < limit := by unfold limit; exact Nat.pow_pos (by decide)
    rw [if_pos rfl]
    have e0 : str 0 = [48] := by rw [str_nonneg (by decide), show (0 : Int).toNat = 0 from rfl, decDigits_lt (by decide)]; rfl
    cases neg <;> simp [e0, hl]
  · rw [if_neg h0]
    have hlen := decDigits_length_le n 200 (by decide)
    have hna : (if neg = true then -(n : Int) else (n : Int)).natAbs = n := by cases neg <;> simp
    rw [hna]
    by_cases h1 : n < limit
    · rw [if_neg (by have := hlen.2 h1; omega), if_pos h1]
      cases neg with
      | true => rw [if_pos rfl, if_pos rfl, str_neg (by omega)]; simp
      | false => simp only [Bool.false_eq_true, if_false]; rw [str_nonneg (by omega)]; simp
    · rw [if_pos (by rcases Nat.lt_or_ge 200 (decDigits n).length with h | h; · exact h
                     · exact absurd (hlen.1 h) h1), if_neg h1]

end Go.Proofs.Tryz

namespace Go.Proofs.Tryz
open Go.RowKit Go.Shelf

theorem infoByte : (Tryz.prog.info? 5).map (fun i => (i.zero, i.size, i.bytes)) = some (some (.int .u8 0), 1, 1) := by kernel_rfl

set_option maxHeartbeats 1000000 in
set_option maxRecDepth 100000 in
theorem copyCheck_used (b : Nat) (w : World) (h0 : w.cell? ⟨b, 0, none⟩ = some (.pointer (some ⟨b, 0, none⟩))) :
    Calls Tryz.prog 115 #[.pointer (some ⟨b, 0, none⟩)] w fun e w' => e = .returned (.tuple #[]) ∧ w' = w := by
  obtain ⟨j, hj, _⟩ := Option.map_eq_some_iff.1 (show (Tryz.prog.info? 105).map (·.size) = some 2 by kernel_rfl)
  go_enter Tryz.func115, Tryz.ntmps115
  go_wp2
  rw [Lib.run_neq_ptr_same w _ Tryz.underlying103 hj]
  go_wp2
  go_end0
  exact ⟨rfl, rfl⟩

set_option maxHeartbeats 1000000 in
set_option maxRecDepth 100000 in
theorem copyCheck_fresh (b : Nat) (w : World) (h0 : w.cell? ⟨b, 0, none⟩ = some (.pointer none)) (hsh : w.shape? b = some (105, 2)) (hfz : w.frozen? ⟨b, 0, none⟩ = false) :
    Calls Tryz.prog 115 #[.pointer (some ⟨b, 0, none⟩)] w fun e w' => e = .returned (.tuple #[]) ∧ w' = w.setCell ⟨b, 0, none⟩ (.pointer (some ⟨b, 0, none⟩)) := by
  obtain ⟨j, hj, hjs⟩ := Option.map_eq_some_iff.1 (show (Tryz.prog.info? 105).map (·.size) = some 2 by kernel_rfl)
  go_enter Tryz.func115, Tryz.ntmps115
  go_wp2
  rw [Lib.run_to_unsafe w ⟨b, 0, none⟩ Tryz.underlying103 Tryz.underlying138 hj (by rw [hjs]; decide) hsh (Nat.zero_lt_succ 1)]
  simp only [Result.andThen]
  rw [Oper.upon_value]
  go_wp2
  rw [run_callFunc_extern Tryz.func128 (by kernel_rfl) (by kernel_rfl) (by kernel_rfl) (e := Extern.AbiNoEscape.same) (by kernel_rfl)]
  rw [Lib.run_noEscape]
  simp only [Result.andThen]
  rw [Oper.upon_value]
  go_wp2
  rw [Lib.run_from_unsafe w ⟨b, 0, none⟩ Tryz.underlying138 Tryz.underlying103 hj hsh (by kernel_rfl)]
  simp only [Result.andThen]
  rw [Oper.upon_value]
  go_wp2
  go_end0
  exact ⟨rfl, rfl⟩

/-- 'bs' are the builder's bytes, b its block. -/
abbrev Holds (B b : Nat) (bs : List Value) (w : World) : Prop := Lib.IsBuilderF 105 5 B b bs w

theorem copyCheck_any (B b : Nat) (bs : List Value) (w : World) (h : Holds B b bs w) :
    Calls Tryz.prog 115 #[.pointer (some ⟨b, 0, none⟩)] w fun e w' => e = .returned (.tuple #[]) ∧ (Lib.BuilderAtF 105 5 B b (.pointer (some ⟨b, 0, none⟩)) bs w' ∧ Below B w w' ∧ Lib.OthersKept 5 (some b) w w') := by
  rcases h with h | h
  · refine (copyCheck_fresh b w h.cell0 h.shape h.frozen0).mono ?_
    rintro e w' ⟨rfl, rfl⟩
    exact ⟨rfl, h.used _, (Below.refl B w).setCell (p := ⟨b, 0, none⟩) h.1 _, (Lib.OthersKept.refl _ _ w).setCell ⟨b, 0, none⟩ rfl _⟩
  · refine (copyCheck_used b w h.cell0).mono ?_
    rintro e w' ⟨rfl, rfl⟩
    exact ⟨rfl, h, Below.refl B _, Lib.OthersKept.refl _ _ _⟩

set_option maxHeartbeats 2000000 in
set_option maxRecDepth 100000 in
theorem writeString_any (B b : Nat) (bs : List Value) (s : ByteArray) (w : World) (h : Holds B b bs w) (hlen : bs.length + s.size ≤ 140737488355328) (hBw : B ≤ w.heap.size) :
    Calls Tryz.prog 87 #[.pointer (some ⟨b, 0, none⟩), .string s] w fun e w' => e = .returned (.tuple #[.int .i64 s.size, .nilIface]) ∧ (Holds B b (bs ++ Lib.strCells s) w' ∧ Below B w w' ∧ Lib.OthersKept 5 (some b) w w') := by
  obtain ⟨i0, hi, hz0, hz1, hz2⟩ := info_parts infoByte
  have e240 : ∀ args w, (callFunc 115 args).run Tryz.prog w = .ok (.enter 115 args) w := enters_of Tryz.func115 (by kernel_rfl) rfl
  go_enter Tryz.func87, Tryz.ntmps87
  go_wp2_with (go_at_call 115; refine (copyCheck_any B b bs _ h).mono ?_)
  rintro e w1 ⟨rfl, h1, hb1, hk1⟩
  obtain ⟨hB, v, hbk, hown, hne⟩ := h1
  have c0 : w1.cell? ⟨b, 0, none⟩ = some (.pointer (some ⟨b, 0, none⟩)) := by rw [Lib.cell_of_heap hbk]; rfl
  have c1 : w1.cell? ⟨b, 1, none⟩ = some v := by rw [Lib.cell_of_heap hbk]; rfl
  go_wp2_with (at_builtin; refine Lib.wpList_append_own_stringF _ rfl _ _ 43 9 rfl B 5 i0 Tryz.underlying43 Tryz.underlying9 hi hz0 hz1 hz2 _ _ _ rfl hown s rfl ?c3 ?c4 ?c5 ?_)
  case c3 => unfold maxLen; omega
  case c4 => omega
  case c5 => have := hb1.size; omega
  intro v' w2 hown' hgrow _
  have hlt : b < w1.heap.size := by
    rcases Nat.lt_or_ge b w1.heap.size with h' | h'
    · exact h'
    · simp [Array.getElem?_eq_none h'] at hbk
  have hb2 : w2.heap[b]? = some (.cells #[.pointer (some ⟨b, 0, none⟩), v] 105 (0, 0)) := by
    rw [hgrow.block b hlt (fun e => hne e.symm)]
    exact hbk
  have d0 : w2.cell? ⟨b, 0, none⟩ = some (.pointer (some ⟨b, 0, none⟩)) := by rw [Lib.cell_of_heap hb2]; rfl
  have d1 : w2.cell? ⟨b, 1, none⟩ = some v := by rw [Lib.cell_of_heap hb2]; rfl
  have f1 : w2.frozen? ⟨b, 1, none⟩ = false := Lib.frozen_of_heap hb2 1
  obtain ⟨ao, n', cap, rfl⟩ : ∃ ao n' cap, v' = .slice ao n' cap := by
    rcases hown'.2 with ⟨hv, _⟩ | ⟨g, cap, cur, fz, hv, _⟩
    · exact ⟨_, _, _, hv⟩
    · exact ⟨_, _, _, hv⟩
  go_wp2
  go_ret2
  refine ⟨rfl, ?_, ?_, (hk1.grown hgrow (Lib.ownsRowF_kind hown)).setCell ⟨b, 1, none⟩ rfl _⟩
  · exact .inr (Lib.BuilderAtF.put (T := 105) (e := 5) hB hb2 (bs' := bs ++ Lib.strCells s) (by simpa [Lib.strCells_length] using hown') (by decide))
  · exact (hb1.grown hgrow (by have := hb1.size; omega) (fun k hk => (hown.lt k hk).1)).setCell (p := ⟨b, 1, none⟩) hB _

end Go.Proofs.Tryz

namespace Go.Proofs.Tryz
open Go.RowKit Go.Shelf Go.Proofs.Dt
open Go.Lib (decDigits byteCells)

attribute [local go_sem] Oper.semAt_some

/-- The table that strconv.Itoa reads. -/
def Tab (W : World) : Prop := Lib.TabIs Tryz.prog W "internal/strconv.uint64pow10" .u64 Lib.pow10Tab

theorem var_below {W W' : World} {name : String} {cs : Array Value} (h : W.var? Tryz.prog name = some cs) (hb : Below W.heap.size W W') : W'.var? Tryz.prog name = some cs := by
  unfold World.var? at *
  cases hg : Tryz.prog.globalNamed name with
  | none => rw [hg] at h; cases h
  | some g =>
    rw [hg] at h
    simp only [Option.bind_some] at h ⊢
    cases ho : W.heap[g]? with
    | none => rw [ho] at h; cases h
    | some o =>
      rw [hb.block g (Array.getElem?_eq_some_iff.1 ho).1]
      exact h

theorem Tab.below {W W' : World} (h : Tab W) (hb : Below W.heap.size W W') : Tab W' := var_below h hb

theorem holds_kept {B b : Nat} {bs : List Value} {W W' : World} {row : Option Nat} (h : Holds B b bs W) (hg : W.grownBy W' row) (hr : ∀ r, row = some r → ∃ o : Obj, W.heap[r]? = some o ∧ o.isCells = false) : Holds B b bs W' := by
  have key : ∀ p, Lib.BuilderAtF 105 5 B b p bs W → Lib.BuilderAtF 105 5 B b p bs W' := by
    rintro p ⟨hB, v, hb, hown, hne⟩
    refine ⟨hB, v, ?_, hown.kept hg ?_, hne⟩
    · rw [hg.block b (Array.getElem?_eq_some_iff.1 hb).1 (fun e => ?_)]
      · exact hb
      · obtain ⟨o, ho, hc⟩ := hr b e.symm
        rw [hb] at ho; cases ho; cases hc
    · cases hv : v.ownBlock with
      | none => exact .inl rfl
      | some g =>
        refine .inr (fun e => ?_)
        obtain ⟨o, ho, hc⟩ := hr g e.symm
        obtain ⟨c, fz, hk⟩ := Lib.ownsRowF_kind hown g hv
        rw [hk] at ho; cases ho; cases hc
  exact h.elim (fun x => .inl (key _ x)) (fun x => .inr (key _ x))

theorem grownBy_of_below {W W' : World} (hb : Below W.heap.size W W') : W.grownBy W' none := ⟨hb.os, hb.tape, hb.output, hb.size, fun k hk _ => hb.block k hk⟩
theorem holds_below {B b : Nat} {bs : List Value} {W W' : World} (h : Holds B b bs W) (hb : Below W.heap.size W W') : Holds B b bs W' := holds_kept h (grownBy_of_below hb) (fun r e => by cases e)

/-- What is true between two rounds of 'text'. -/
structure TInv (w : World) (xs : List Int) (neg : Bool) (v : Value) (pre : List (Fin xs.length)) (W : World) : Prop where
  k0 : W.heap[w.heap.size]? = some (.cells #[.bool neg, v] 91 (0, 0))
  hold : Holds w.heap.size (w.heap.size + 1) (byteCells (pieces xs pre)) W
  bs : Boxed W (w.heap.size + 2) 89 v
  size : w.heap.size + 3 ≤ W.heap.size
  below : Below w.heap.size w W

theorem TInv.start (w : World) (xs : List Int) (neg : Bool) (v : Value) : TInv w xs neg v [] (((w.alloc (.cells #[.bool neg, v] 91)).alloc (.cells #[.pointer none, .slice none 0 0] 105)).alloc (.cells #[v] 89)) := by
  have e2 : ((w.alloc (.cells #[.bool neg, v] 91)).alloc (.cells #[.pointer none, .slice none 0 0] 105)).heap[w.heap.size + 1]? = some (.cells #[.pointer none, .slice none 0 0] 105 (0, 0)) := by
    simpa using heap_alloc_new (w.alloc (.cells #[.bool neg, v] 91)) (.cells #[.pointer none, .slice none 0 0] 105)
  refine ⟨(Lib.alloc_old _ _ _ (by simp; omega)).trans ((Lib.alloc_old _ _ _ (by simp)).trans (heap_alloc_new w _)), .inl ⟨by omega, .slice none 0 0, (Lib.alloc_old _ _ _ (by simp)).trans e2, World.ownsRowF_nil _ _ _ _, by simp [Value.ownBlock]⟩, ?_, by simp, (((Below.refl _ w).alloc (Nat.le_refl _) _).alloc (by simp) _).alloc (by simp; omega) _⟩
  have h := Boxed.new ((w.alloc (.cells #[.bool neg, v] 91)).alloc (.cells #[.pointer none, .slice none 0 0] 105)) 89 v
  simpa only [World.size_alloc] using h

theorem TInv.own {w : World} {xs : List Int} {neg : Bool} {v : Value} {B : Nat} (hB : w.heap.size ≤ B) : OwnFrom B (fun pre W => TInv w xs neg v pre W) := by
  intro s A A' row hs hg hr
  have hr' : ∀ r, row = some r → ∃ o : Obj, A.heap[r]? = some o ∧ o.isCells = false := fun r e => (hr r e).2
  have blk : ∀ (k : Nat) (cs : Array Value) (t : TypeId) (fz : Nat × Nat), A.heap[k]? = some (.cells cs t fz) → A'.heap[k]? = some (.cells cs t fz) := fun k cs t fz h => by
    rw [hg.block k (Array.getElem?_eq_some_iff.1 h).1 (fun e => ?_)]
    · exact h
    · obtain ⟨o, ho, hc⟩ := hr' k e.symm
      rw [h] at ho; cases ho; cases hc
  exact ⟨blk _ _ _ _ hs.k0, holds_kept hs.hold hg hr', blk _ _ _ _ hs.bs, Nat.le_trans hs.size hg.size, hs.below.grown hg hs.below.size (fun k e => Nat.le_trans hB (hr k e).1)⟩

theorem TInv.next {w : World} {xs : List Int} {neg : Bool} {v : Value} {pre : List (Fin xs.length)} {x : Fin xs.length} {W W2 W3 : World} {s : ByteArray} (K : Nat) (h : TInv w xs neg v pre W) (hb : Below W.heap.size W W2) (hs : s.data.toList = piece xs x)
    (h1 : Holds w.heap.size (w.heap.size + 1) (byteCells (pieces xs pre) ++ Lib.strCells s) W3) (h2 : Below w.heap.size W2 W3) (h3 : Lib.OthersKept 5 (some (w.heap.size + 1)) W2 W3) :
    KeepsFrom K W W3 ∧ KeepsBox w.heap.size (w.heap.size + 2) W W3 ∧ TInv w xs neg v (pre ++ [x]) W3 := by
  have hsz := h.size
  have hs2 := hb.size
  have hs3 := h2.size
  have k2 : W2.heap[w.heap.size]? = some (.cells #[.bool neg, v] 91 (0, 0)) := (hb.block _ (by omega)).trans h.k0
  have k3 := h3 _ _ k2 (by simp) (fun c fz e => by cases e)
  have b2 : W2.heap[w.heap.size + 2]? = some (.cells #[v] 89 (0, 0)) := (hb.block _ (by omega)).trans h.bs
  have b3 := h3 _ _ b2 (by simp) (fun c fz e => by cases e)
  have hB3 : Below w.heap.size W W3 := (hb.mono h.below.size).trans h2
  refine ⟨KeepsOthers.from ⟨by omega, fun k o hk ho => ?_⟩ K, ⟨hB3, ?_⟩, ⟨k3, ?_, b3, by omega, h.below.trans hB3⟩⟩
  · have hk2 := (hb.block k (Array.getElem?_eq_some_iff.1 hk).1).trans hk
    refine h3 k o hk2 (fun e => ?_) (fun c fz e => by rw [e] at ho; cases ho)
    obtain ⟨c, fz, e2⟩ : ∃ c fz, W.heap[w.heap.size + 1]? = some (.cells c 105 fz) := by
      rcases h.hold with ⟨_, u, hu, _⟩ | ⟨_, u, hu, _⟩ <;> exact ⟨_, _, hu⟩
    cases e
    rw [e2] at hk
    cases hk
    cases ho
  · simp only [World.cell?, b3, show W.heap[w.heap.size + 2]? = _ from h.bs]
  · rw [pieces_snoc, Lib.byteCells_append, ← hs]
    exact h1

end Go.Proofs.Tryz

namespace Go.Proofs.Tryz
open Go.RowKit Go.Shelf Go.Proofs.Dt
open Go.Lib (decDigits byteCells)

attribute [local go_sem] Oper.semAt_some

theorem bytes_ext {a b : ByteArray} (h : a.data.toList = b.data.toList) : a = b := by
  cases a; cases b
  exact congrArg ByteArray.mk (Array.toList_inj.1 h)

set_option maxRecDepth 100000 in
set_option maxHeartbeats 4000000 in
theorem text_in (F : Fence) (n : Nat) (hf0 : F.fn 79) (hf1 : F.fn 100) (hf2 : F.fn 122) (hf3 : F.fn 98) (hf4 : F.fn 85) (hf5 : F.fn 87) (hf6 : F.fn 88) (hro : F.round = none) (hn : 3 ≤ n)
    (hIt : ∀ (k : Nat) (g : Int) (W : World), 0 ≤ g → g ≤ 9999 → Tab W → CallsIn F k Tryz.prog 98 #[.int .i64 g] W fun e w' => e = .returned (.string ⟨(decDigits g.toNat).toArray⟩) ∧ Below W.heap.size W w')
    (hRe : ∀ (k c : Nat) (W : World), c ≤ 3 → CallsIn F k Tryz.prog 85 #[.string ⟨#[48]⟩, .int .i64 (c : Int)] W fun e w' => e = .returned (.string ⟨(List.replicate c (48 : UInt8)).toArray⟩) ∧ Below W.heap.size W w')
    (hWr : ∀ (k B b : Nat) (bs : List Value) (s : ByteArray) (W : World), Holds B b bs W → bs.length + s.size ≤ 140737488355328 → B ≤ W.heap.size → CallsIn F k Tryz.prog 87 #[.pointer (some ⟨b, 0, none⟩), .string s] W fun e w' => e = .returned (.tuple #[.int .i64 s.size, .nilIface]) ∧ (Holds B b (bs ++ Lib.strCells s) w' ∧ Below B W w' ∧ Lib.OthersKept 5 (some b) W w'))
    (hSt : ∀ (k B b : Nat) (l : List UInt8) (W : World), Holds B b (byteCells l) W → l ≠ [] → CallsIn F k Tryz.prog 88 #[.pointer (some ⟨b, 0, none⟩)] W fun e w' => e = .returned (.string ⟨l.toArray⟩) ∧ (Holds B b (byteCells l) w' ∧ Below B W w' ∧ Lib.OthersKept 5 (some b) W w'))
    (neg : Bool) (v : Value) (a : Nat) (w : World) (ha : Num w v a) (h0 : a ≠ 0) (fa : Lim 400 a) (ht : Tab w) :
    CallsIn F n Tryz.prog 79 #[.agg #[.bool neg, v]] w fun e w' => e = .returned (.tuple #[.string ⟨(textS neg a).1.toArray⟩, .int .i64 (textS neg a).2]) ∧ Below w.heap.size w w' := by
  obtain ⟨xs, ix, rx⟩ := ha
  have lx : xs.length ≤ 400 := Lim.length rx fa
  have l0 : 0 < xs.length := List.length_pos_iff.2 (fun e => h0 ((rx.pos (by decide)).1 e))
  obtain ⟨ax, cx, rfl⟩ := ix.shape
  have h1 : 1 ≤ n := by omega
  have h11 : 1 ≤ n - 1 - 1 := by omega
  have HH := Lib.hid h0
  have HT := Lib.hid ht
  have HRX := Lib.hid rx
  have HIX := Lib.hid ix
  clear fa h0 ht rx ix
  refine callsIn_of_wp_marks Tryz.func79 rfl hf0 ?_ hro
  simp only [Tryz.ntmps79, List.size_toArray, List.length_cons, List.length_nil, Nat.reduceAdd, Nat.reduceSub, Array.replicate_succ, Array.replicate_zero, List.push_toArray, List.append_toArray, List.nil_append, List.cons_append]
  gi_wp2_with (gi_at_call 100; go_must (refine (back_in F (n - 1) hf1 hro _ _ _ _).mono ?_); rintro e w' ⟨rfl, rfl⟩)
  obtain ⟨W0, hW0⟩ : ∃ W0, W0 = (((w.alloc (.cells #[.bool neg, .slice ax xs.length cx] 91)).alloc (.cells #[.pointer none, .slice none 0 0] 105)).alloc (.cells #[.slice ax xs.length cx] 89)) := ⟨_, rfl⟩
  have hT0 : TInv w xs neg (.slice ax xs.length cx) [] W0 := by rw [hW0]; exact TInv.start w xs neg _
  have s0 : W0.heap.size = w.heap.size + 3 := by rw [hW0]; simp
  rw [← hW0]
  clear hW0
  refine wpIn_rangeFunc_ownG hro h1 (gf := 122) (lb := #[.pointer (some ⟨w.heap.size + 1 + 1, 0, none⟩)]) rfl hf2 (enters_of Tryz.func122 (by kernel_rfl) rfl)
    (back_stops F (n - 1) hf2 hro (by omega) (w.heap.size + 1 + 1) w.heap.size _ xs (by omega) W0 (by omega) hT0.bs.cell w (Nat.le_refl _) hT0.below HIX.out) keepsBox_t (keepsBox_b (by omega) (by omega)) (Below.refl _ _) (fun _ => rfl)
    (fun pre W => TInv w xs neg (.slice ax xs.length cx) pre W) (fun _ _ _ => False) (TInv.own (by omega)) (fun _ _ _ _ _ hs _ _ => hs) hT0
    (fun x => { tmps := #[.agg #[.bool neg, .slice ax xs.length cx], .pointer (some ⟨w.heap.size, 0, none⟩), .string ⟨#[]⟩, .int .i64 0, .pointer (some ⟨w.heap.size + 1, 0, none⟩), .int .i64 (x.val : Int), .int .i64 (grp xs x), undef, undef, .pointer (some ⟨w.heap.size, 1, none⟩), .slice ax xs.length cx, .int .i64 xs.length, .bool false, .pointer (some ⟨w.heap.size, 1, none⟩), .slice ax xs.length cx, .func (.func 122) #[] #[.pointer (some ⟨w.heap.size + 1 + 1, 0, none⟩)], .int .i64 (x.val : Int), .int .i64 (grp xs x), undef, undef, undef, undef, undef, undef, undef, undef, undef, undef, undef, undef, undef, undef, undef, undef, undef, undef, undef, undef, undef, undef, undef, undef, undef], defers := [] }) ?assign ?body ?done ?stop
  case assign =>
    intro l x W K hK
    gi_wp2
    exact hK
  case body =>
    rintro l pre x W hI hlt
    have hg0 := HRX.out.good _ (List.getElem_mem x.isLt)
    have hg : 0 ≤ grp xs x ∧ grp xs x ≤ 9999 := ⟨hg0.1, by have := hg0.2; show xs[x.val] ≤ 9999; omega⟩
    have hIT : Hid (∀ k, CallsIn F k Tryz.prog 98 #[.int .i64 (grp xs x)] W fun e w' => e = .returned (.string ⟨(decDigits (grp xs x).toNat).toArray⟩) ∧ Below W.heap.size W w') := fun k => hIt k _ W hg.1 hg.2 (HT.out.below hI.below)
    have hdl : (decDigits (grp xs x).toNat).length ≤ 4 := (decDigits_length_le _ 4 (by decide)).2 (by show (grp xs x).toNat < 10000; omega)
    have hd1 : 1 ≤ (decDigits (grp xs x).toNat).length := List.length_pos_iff.2 (decDigits_ne _)
    obtain ⟨s, hs⟩ : ∃ s : ByteArray, s = ⟨(decDigits (grp xs x).toNat).toArray⟩ := ⟨_, rfl⟩
    rw [← hs] at hIT
    have hsd : s.data.toList = decDigits (grp xs x).toNat := by rw [hs]
    have hss : s.size = (decDigits (grp xs x).toNat).length := by rw [Lib.size_eq, hsd]
    rw [← hss] at hdl hd1
    have hc : (4 : Int) - (s.size : Int) = ((4 - s.size : Nat) : Int) := by omega
    obtain ⟨c, hcd⟩ : ∃ c, c = 4 - s.size := ⟨_, rfl⟩
    rw [← hcd] at hc
    have hc3 : c ≤ 3 := by omega
    have hpl : (pieces xs pre).length ≤ 4 * pre.length := pieces_length HRX.out.good pre
    have HSD := Lib.hid hsd
    have HSS := Lib.hid hss
    have HCD := Lib.hid hcd
    have HI := Lib.hid hI
    have hsz := hI.size
    have hxl := x.isLt
    clear hs hsd hss hcd hI hg hg0
    by_cases hx : (x.val : Int) < (xs.length : Int) - 1
    · gi_wp2_with (first
        | (gi_at_call 98; go_must (refine (CallsIn.inRound l (hIT.out _)).mono ?_); rintro e w1 ⟨rfl, hb1⟩; have k1 := (hb1.block w.heap.size (by omega)).trans HI.out.k0; have hc1 : w1.cell? ⟨w.heap.size, 1, none⟩ = some (.slice ax xs.length cx) := (by rw [Lib.cell_of_heap k1]; rfl))
        | (gi_at_call 85; go_must (refine (CallsIn.inRound l (hRe _ c _ hc3)).mono ?_); rintro e w2 ⟨rfl, hb2⟩))
      have hb12 := hb1.trans (hb2.mono hb1.size)
      have s12 := hb12.size
      have hsl : (({ data := Array.replicate c 48 } : ByteArray) ++ s).data.toList = List.replicate c 48 ++ s.data.toList := by
        rw [ByteArray.data_append, Array.toList_append, Array.toList_replicate]
      have hsz2 : (({ data := Array.replicate c 48 } : ByteArray) ++ s).size = c + s.size := by rw [Lib.size_eq, hsl, List.length_append, List.length_replicate, ← Lib.size_eq]
      refine (CallsIn.inRound l (hWr _ w.heap.size (w.heap.size + 1) _ _ _ (holds_below HI.out.hold hb12) (by rw [Lib.byteCells_length, hsz2]; omega) (by omega))).mono ?_
      rintro e w3 ⟨rfl, g1, g2, g3⟩
      have hp : (({ data := Array.replicate c 48 } : ByteArray) ++ s).data.toList = piece xs x := by
        rw [hsl, HSD.out]; unfold piece pad4; rw [if_pos (by omega), HCD.out, HSS.out]
      gi_wp2
      exact TInv.next _ HI.out hb12 hp g1 g2 g3
    · gi_wp2_with (gi_at_call 98; go_must (refine (CallsIn.inRound l (hIT.out _)).mono ?_); rintro e w1 ⟨rfl, hb1⟩; have k1 := (hb1.block w.heap.size (by omega)).trans HI.out.k0; have hc1 : w1.cell? ⟨w.heap.size, 1, none⟩ = some (.slice ax xs.length cx) := (by rw [Lib.cell_of_heap k1]; rfl))
      have s1 := hb1.size
      refine (CallsIn.inRound l (hWr _ w.heap.size (w.heap.size + 1) _ _ _ (holds_below HI.out.hold hb1) (by rw [Lib.byteCells_length]; omega) (by omega))).mono ?_
      rintro e w3 ⟨rfl, g1, g2, g3⟩
      have hp : s.data.toList = piece xs x := by
        rw [HSD.out]; unfold piece; rw [if_neg (by omega)]
      gi_wp2
      exact TInv.next _ HI.out hb1 hp g1 g2 g3
  case done =>
    rintro D zs W hD hzs hI hK
    have hp := pieces_all HRX.out HH.out hzs
    have hold := hI.hold
    rw [hp] at hold
    obtain ⟨s, hs⟩ : ∃ s : ByteArray, s = ⟨(decDigits a).toArray⟩ := ⟨_, rfl⟩
    have hsd : s.data.toList = decDigits a := by rw [hs]
    have hss : s.size = (decDigits a).length := by rw [Lib.size_eq, hsd]
    have hS : Hid (∀ k, CallsIn F k Tryz.prog 88 #[.pointer (some ⟨w.heap.size + 1, 0, none⟩)] W fun e w' => e = .returned (.string s) ∧ Below w.heap.size w w' ∧ w'.heap[D]? = some (.deferred (some [])) ∧ w'.cell? ⟨w.heap.size, 0, none⟩ = some (.bool neg)) := by
      intro k
      refine (hSt k w.heap.size (w.heap.size + 1) (decDigits a) W hold (decDigits_ne _)).mono ?_
      rintro e w' ⟨he, _, h2, h3⟩
      refine ⟨by rw [he, hs], hI.below.trans h2, h3 _ _ hK (fun e => by cases e; have := hI.size; omega) (fun c fz e => by cases e), ?_⟩
      have k3 := h3 _ _ hI.k0 (by simp) (fun c fz e => by cases e)
      rw [Lib.cell_of_heap k3]; rfl
    have HSD := Lib.hid hsd
    have HSS := Lib.hid hss
    have hsz := hI.size
    clear hs hsd hss hI hold hp hzs hK hT0
    have T0 : Hid (textS neg a = if 200 < (decDigits a).length then ([], 30) else (if neg then 45 :: decDigits a else decDigits a, 0)) := by
      show _ = _
      unfold textS; rw [if_neg HH.out]
    by_cases h2 : 200 < (s.size : Int)
    · have hT : Hid (textS neg a = ([], 30)) := by show _ = _; rw [T0.out, if_pos (by have := HSS.out; omega)]
      gi_wp2_with (gi_at_call 88; go_must (refine (hS.out _).mono ?_); rintro e w5 ⟨rfl, g1, g2, g3⟩)
      refine ⟨by simp, .inl ⟨_, _, rfl, run_takeDeferred g2, ?_⟩⟩
      refine ⟨_, results_tmp2 rfl _ _ _, ?_⟩
      exact ⟨by rw [hT.out]; rfl, g1.trans ⟨rfl, rfl, rfl, by simp [World.putObj], fun k hk => World.putObj_heap_other (by omega)⟩⟩
    · have hlen : ¬ 200 < (decDigits a).length := by have := HSS.out; omega
      cases neg with
      | true =>
        have hT : Hid (textS true a = (45 :: decDigits a, 0)) := by show _ = _; rw [T0.out, if_neg hlen, if_pos rfl]
        have hcat : Hid ((⟨#[45]⟩ : ByteArray) ++ s = ⟨(45 :: decDigits a).toArray⟩) := bytes_ext (by rw [ByteArray.data_append, Array.toList_append, HSD.out]; rfl)
        gi_wp2_with (gi_at_call 88; go_must (refine (hS.out _).mono ?_); rintro e w5 ⟨rfl, g1, g2, g3⟩)
        refine ⟨by simp, .inl ⟨_, _, rfl, run_takeDeferred g2, ?_⟩⟩
        refine ⟨_, results_tmp2 rfl _ _ _, ?_⟩
        exact ⟨by rw [hT.out]; exact congrArg (fun b => Ending.returned (.tuple #[.string b, .int .i64 0])) hcat.out, g1.trans ⟨rfl, rfl, rfl, by simp [World.putObj], fun k hk => World.putObj_heap_other (by omega)⟩⟩
      | false =>
        have hT : Hid (textS false a = (decDigits a, 0)) := by show _ = _; rw [T0.out, if_neg hlen, if_neg (by decide)]
        have hcat : Hid (s = ⟨(decDigits a).toArray⟩) := bytes_ext (by rw [HSD.out])
        gi_wp2_with (gi_at_call 88; go_must (refine (hS.out _).mono ?_); rintro e w5 ⟨rfl, g1, g2, g3⟩)
        refine ⟨by simp, .inl ⟨_, _, rfl, run_takeDeferred g2, ?_⟩⟩
        refine ⟨_, results_tmp2 rfl _ _ _, ?_⟩
        exact ⟨by rw [hT.out]; exact congrArg (fun b => Ending.returned (.tuple #[.string b, .int .i64 0])) hcat.out, g1.trans ⟨rfl, rfl, rfl, by simp [World.putObj], fun k hk => World.putObj_heap_other (by omega)⟩⟩
  case stop =>
    rintro D c pre W _ _ h _
    exact h.elim

theorem itoa_small (g : Int) (W : World) (h0 : 0 ≤ g) (h1 : g ≤ 9999) (ht : Tab W) : Calls Tryz.prog 98 #[.int .i64 g] W fun e w' => e = .returned (.string ⟨(decDigits g.toNat).toArray⟩) ∧ Below W.heap.size W w' := by
  refine (Tryz.strconv_Itoa g (by omega) (by omega) W ht).mono ?_
  rintro e w' ⟨rfl, k, os, rfl⟩
  refine ⟨?_, Lib.below_grow _ _ (Nat.le_refl _) _ _⟩
  have : Lib.itoa g = decDigits g.toNat := str_nonneg h0
  rw [this]

theorem repeat_zero (c : Nat) (W : World) (hc : c ≤ 3) : Calls Tryz.prog 85 #[.string ⟨#[48]⟩, .int .i64 (c : Int)] W fun e w' => e = .returned (.string ⟨(List.replicate c (48 : UInt8)).toArray⟩) ∧ Below W.heap.size W w' := by
  refine (Tryz.strings_Repeat ⟨#[48]⟩ c W (by omega) (by show 1 * c ≤ _; omega)).mono ?_
  rintro e w' ⟨rfl, hb⟩
  refine ⟨?_, hb⟩
  have : ∀ c, Lib.repeatL [48] c = List.replicate c (48 : UInt8) := by
    intro c
    induction c with
    | zero => rfl
    | succ c ih => rw [Lib.repeatL, ih]; rfl
  rw [this]

/-- 'text'. -/
theorem text_any (neg : Bool) (v : Value) (a : Nat) (w : World) (ha : Num w v a) (fa : Lim 400 a) (ht : Tab w) :
    Calls Tryz.prog 79 #[.agg #[.bool neg, v]] w fun e w' => e = .returned (.tuple #[.string ⟨(textS neg a).1.toArray⟩, .int .i64 (textS neg a).2]) ∧ Below w.heap.size w w' := by
  by_cases h0 : a = 0
  · subst h0
    obtain ⟨xs, ix, rx⟩ := ha
    obtain rfl : xs = [] := (rx.pos (by decide)).2 rfl
    obtain ⟨ax, cx, rfl⟩ := ix.shape
    have hT : Hid (textS neg 0 = ([48], 0)) := rfl
    clear rx ix fa ht
    rw [List.length_nil]
    go_enter Tryz.func79, Tryz.ntmps79
    go_wp2
    go_ret2
    exact ⟨by rw [hT.out]; rfl, (Below.refl _ w).alloc (Nat.le_refl _) _⟩
  · exact callsIn_wide.1 (text_in Fence.wide 3 trivial trivial trivial trivial trivial trivial trivial rfl (Nat.le_refl _) (fun _ g W h0 h1 ht => callsIn_wide.2 (itoa_small g W h0 h1 ht)) (fun _ c W hc => callsIn_wide.2 (repeat_zero c W hc))
      (fun _ B b bs s W h h1 h2 => callsIn_wide.2 (writeString_any B b bs s W h h1 h2)) (fun _ B b l W h hl => callsIn_wide.2 (Tryz.Builder_String_k B b l W h hl)) neg v a w ha h0 fa ht)

end Go.Proofs.Tryz
