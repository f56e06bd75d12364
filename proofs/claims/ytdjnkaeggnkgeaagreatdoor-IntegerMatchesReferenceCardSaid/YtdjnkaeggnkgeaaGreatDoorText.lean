/- 'text': an integer as a string. -/
import Derived.Test.YtdjnkaeggnkgeaaGreatDoorTextP
import Derived.Test.YtdjnkaeggnkgeaaGreatDoorBuild
import Derived.Test.YtdjnkaeggnkgeaaGreatDoorShelf
import Derived.Test.YtdjnkaeggnkgeaaGreatDoorTimes
import Derived.Lib.QuietBelow
namespace Go.Proofs.Tryz
open Go.RowKit Go.Shelf Go.Proofs.Dt
open Go.Lib (decDigits byteCells)

attribute [local go_sem] Oper.semAt_some

/-- The table that strconv.Itoa reads. -/
def Tab (W : World) : Prop := Lib.TabIs Tryz.prog W "internal/strconv.uint64pow10" .u64 Lib.pow10Tab

theorem var_below {W W' : World} {name : String} {cs : Array Value} (h : W.var? Tryz.prog name = some cs) (hb : Below W.heap.size W W') : W'.var? Tryz.prog name = some cs := by
  unfold World.var? at *
  cases hg : Tryz.prog.globalNamed name with
  | none => rw [hg] at h; cases h
  | some g =>
    rw [hg] at h
    simp only [Option.bind_some] at h ⊢
    cases ho : W.heap[g]? with
    | none => rw [ho] at h; cases h
    | some o =>
      rw [hb.block g (Array.getElem?_eq_some_iff.1 ho).1]
      exact h

theorem Tab.below {W W' : World} (h : Tab W) (hb : Below W.heap.size W W') : Tab W' := var_below h hb

theorem holds_kept {B b : Nat} {bs : List Value} {W W' : World} {row : Option Nat} (h : Holds B b bs W) (hg : W.grownBy W' row) (hr : ∀ r, row = some r → ∃ o : Obj, W.heap[r]? = some o ∧ o.isCells = false) : Holds B b bs W' := by
  have key : ∀ p, Lib.BuilderAtF 76 5 B b p bs W → Lib.BuilderAtF 76 5 B b p bs W' := by
    rintro p ⟨hB, v, hb, hown, hne⟩
    refine ⟨hB, v, ?_, hown.kept hg ?_, hne⟩
    · rw [hg.block b (Array.getElem?_eq_some_iff.1 hb).1 (fun e => ?_)]
      · exact hb
      · obtain ⟨o, ho, hc⟩ := hr b e.symm
        rw [hb] at ho; cases ho; cases hc
    · cases hv : v.ownBlock with
      | none => exact .inl rfl
      | some g =>
        refine .inr (fun e => ?_)
        obtain ⟨o, ho, hc⟩ := hr g e.symm
        obtain ⟨c, fz, hk⟩ := Lib.ownsRowF_kind hown g hv
        rw [hk] at ho; cases ho; cases hc
  exact h.elim (fun x => .inl (key _ x)) (fun x => .inr (key _ x))

theorem grownBy_of_below {W W' : World} (hb : Below W.heap.size W W') : W.grownBy W' none := ⟨hb.os, hb.tape, hb.output, hb.size, fun k hk _ => hb.block k hk⟩
theorem holds_below {B b : Nat} {bs : List Value} {W W' : World} (h : Holds B b bs W) (hb : Below W.heap.size W W') : Holds B b bs W' := holds_kept h (grownBy_of_below hb) (fun r e => by cases e)

/-- What is true between two rounds of 'text'. -/
structure TInv (w : World) (xs : List Int) (neg : Bool) (v : Value) (pre : List (Fin xs.length)) (W : World) : Prop where
  k0 : W.heap[w.heap.size]? = some (.cells #[.bool neg, v] 50 (0, 0))
  hold : Holds w.heap.size (w.heap.size + 1) (byteCells (pieces xs pre)) W
  bs : Boxed W (w.heap.size + 2) 48 v
  size : w.heap.size + 3 ≤ W.heap.size
  below : Below w.heap.size w W

theorem TInv.start (w : World) (xs : List Int) (neg : Bool) (v : Value) : TInv w xs neg v [] (((w.alloc (.cells #[.bool neg, v] 50)).alloc (.cells #[.pointer none, .slice none 0 0] 76)).alloc (.cells #[v] 48)) := by
  have e2 : ((w.alloc (.cells #[.bool neg, v] 50)).alloc (.cells #[.pointer none, .slice none 0 0] 76)).heap[w.heap.size + 1]? = some (.cells #[.pointer none, .slice none 0 0] 76 (0, 0)) := by
    simpa using heap_alloc_new (w.alloc (.cells #[.bool neg, v] 50)) (.cells #[.pointer none, .slice none 0 0] 76)
  refine ⟨(Lib.alloc_old _ _ _ (by simp; omega)).trans ((Lib.alloc_old _ _ _ (by simp)).trans (heap_alloc_new w _)), .inl ⟨by omega, .slice none 0 0, (Lib.alloc_old _ _ _ (by simp)).trans e2, World.ownsRowF_nil _ _ _ _, by simp [Value.ownBlock]⟩, ?_, by simp, (((Below.refl _ w).alloc (Nat.le_refl _) _).alloc (by simp) _).alloc (by simp; omega) _⟩
  have h := Boxed.new ((w.alloc (.cells #[.bool neg, v] 50)).alloc (.cells #[.pointer none, .slice none 0 0] 76)) 48 v
  simpa only [World.size_alloc] using h

theorem TInv.own {w : World} {xs : List Int} {neg : Bool} {v : Value} {B : Nat} (hB : w.heap.size ≤ B) : OwnFrom B (fun pre W => TInv w xs neg v pre W) := by
  intro s A A' row hs hg hr
  have hr' : ∀ r, row = some r → ∃ o : Obj, A.heap[r]? = some o ∧ o.isCells = false := fun r e => (hr r e).2
  have blk : ∀ (k : Nat) (cs : Array Value) (t : TypeId) (fz : Nat × Nat), A.heap[k]? = some (.cells cs t fz) → A'.heap[k]? = some (.cells cs t fz) := fun k cs t fz h => by
    rw [hg.block k (Array.getElem?_eq_some_iff.1 h).1 (fun e => ?_)]
    · exact h
    · obtain ⟨o, ho, hc⟩ := hr' k e.symm
      rw [h] at ho; cases ho; cases hc
  exact ⟨blk _ _ _ _ hs.k0, holds_kept hs.hold hg hr', blk _ _ _ _ hs.bs, Nat.le_trans hs.size hg.size, hs.below.grown hg hs.below.size (fun k e => Nat.le_trans hB (hr k e).1)⟩

theorem TInv.next {w : World} {xs : List Int} {neg : Bool} {v : Value} {pre : List (Fin xs.length)} {x : Fin xs.length} {W W2 W3 : World} {s : ByteArray} (K : Nat) (h : TInv w xs neg v pre W) (hb : Below W.heap.size W W2) (hs : s.data.toList = piece xs x)
    (h1 : Holds w.heap.size (w.heap.size + 1) (byteCells (pieces xs pre) ++ Lib.strCells s) W3) (h2 : Below w.heap.size W2 W3) (h3 : Lib.OthersKept 5 (some (w.heap.size + 1)) W2 W3) :
    KeepsFrom K W W3 ∧ KeepsBox w.heap.size (w.heap.size + 2) W W3 ∧ TInv w xs neg v (pre ++ [x]) W3 := by
  have hsz := h.size
  have hs2 := hb.size
  have hs3 := h2.size
  have k2 : W2.heap[w.heap.size]? = some (.cells #[.bool neg, v] 50 (0, 0)) := (hb.block _ (by omega)).trans h.k0
  have k3 := h3 _ _ k2 (by simp) (fun c fz e => by cases e)
  have b2 : W2.heap[w.heap.size + 2]? = some (.cells #[v] 48 (0, 0)) := (hb.block _ (by omega)).trans h.bs
  have b3 := h3 _ _ b2 (by simp) (fun c fz e => by cases e)
  have hB3 : Below w.heap.size W W3 := (hb.mono h.below.size).trans h2
  refine ⟨KeepsOthers.from ⟨by omega, fun k o hk ho => ?_⟩ K, ⟨hB3, ?_⟩, ⟨k3, ?_, b3, by omega, h.below.trans hB3⟩⟩
  · have hk2 := (hb.block k (Array.getElem?_eq_some_iff.1 hk).1).trans hk
    refine h3 k o hk2 (fun e => ?_) (fun c fz e => by rw [e] at ho; cases ho)
    obtain ⟨c, fz, e2⟩ : ∃ c fz, W.heap[w.heap.size + 1]? = some (.cells c 76 fz) := by
      rcases h.hold with ⟨_, u, hu, _⟩ | ⟨_, u, hu, _⟩ <;> exact ⟨_, _, hu⟩
    cases e
    rw [e2] at hk
    cases hk
    cases ho
  · simp only [World.cell?, b3, show W.heap[w.heap.size + 2]? = _ from h.bs]
  · rw [pieces_snoc, Lib.byteCells_append, ← hs]
    exact h1

end Go.Proofs.Tryz
