/- 'parse': the number that a valid integer is. -/
import Derived.Test.YtdjnkaeggnkgeaaGreatDoorAto
import Derived.Test.YtdjnkaeggnkgeaaGreatDoorTxt
import Derived.Test.YtdjnkaeggnkgeaaGreatDoorValid
import Derived.Test.YtdjnkaeggnkgeaaGreatDoorNum
import Derived.Lib.AtoiErrMem
namespace Go.Proofs.Tryz
open Go.RowKit Go.Shelf Go.Proofs.Dt

/-- The value v of type signed is the number n (a zero may be negative). -/
def Sgd (W : World) (v : Value) (n : Int) : Prop := ∃ neg r m, v = .agg #[.bool neg, r] ∧ Num W r m ∧ n = (if neg then -(m : Int) else m) ∧ (neg = true → (m : Int) ≠ 0 ∨ True)

/-- What 'parse' returns: no negative zero. -/
def Par (W : World) (v : Value) (n : Int) : Prop := ∃ r, v = .agg #[.bool (decide (n < 0)), r] ∧ Num W r n.natAbs

theorem Par.below {W W' : World} {v : Value} {n : Int} (h : Par W v n) {k : Nat} (hk : W.heap.size ≤ k) (hb : Below k W W') : Par W' v n :=
  let ⟨r, h1, h2⟩ := h; ⟨r, h1, h2.below hk hb⟩

/-- Between two rounds of the loop of 'parse': f bytes of the digits are left; b is x's block. -/
structure ParInv (D : List UInt8) (neg : Bool) (w : World) (b : Nat) (f : Nat) (W : World) (v : Value) (xs : List Int) : Prop where
  hf : f ≤ D.length
  own : W.ownsRow w.heap.size 3 1 v xs.length (xs.map (Value.int .i64))
  box : W.heap[b]? = some (.cells #[.bool neg, v] 50 (0, 0))
  hb : w.heap.size < b
  res : W.heap[w.heap.size]? = some (.cells #[.bool false, .slice none 0 0] 50 (0, 0))
  ne : v.ownBlock ≠ some b
  len : f = 0 ∨ D.length - f = 4 * xs.length
  le : xs.length ≤ D.length - f
  val : val 10000 xs = (dval (D.drop f) : Int)
  dgs : Dgs 10000 xs
  below : Below w.heap.size w W

theorem away_ne {b : Nat} {v : Value} (h : v.ownBlock ≠ some b) : Away b v := fun a l c e => by
  rw [e] at h
  intro e2
  exact h (by simp [Value.ownBlock, e2])

theorem Num.cellAway {W : World} {v : Value} {n b j : Nat} {u : Value} (h : Num W v n) (ha : Away b v) : Num (W.setCell ⟨b, j, none⟩ u) v n := by
  obtain ⟨xs, h, hr⟩ := h
  refine ⟨xs, ?_, hr⟩
  rcases h with h | ⟨c, off, cap, hv, hc, hlt, hcell⟩
  · exact .inl h
  · exact .inr ⟨c, off, cap, hv, hc, by simpa [World.setCell] using hlt, fun k hk => (World.cell?_of_block (w := W) (Below.heap_setCell _ _ _ _ (ha _ _ _ hv))).trans (hcell k hk)⟩

def strLen : Value → Nat | .string s => s.size | _ => 0

theorem ParInv.start (D : List UInt8) (neg : Bool) (w : World) : ParInv D neg w (w.heap.size + 1) D.length ((w.alloc (.cells #[.bool false, .slice none 0 0] 50)).alloc (.cells #[.bool neg, .slice none 0 0] 50)) (.slice none 0 0) [] :=
  ⟨Nat.le_refl _, World.ownsRow_nil _ _ _ _, (by simpa using heap_alloc_new (w.alloc (.cells #[.bool false, .slice none 0 0] 50)) (.cells #[.bool neg, .slice none 0 0] 50)), by omega, (Lib.alloc_old _ _ _ (by simp)).trans (heap_alloc_new w _), by simp [Value.ownBlock], .inr (by simp), by simp, by rw [List.drop_length]; rfl, Dgs.nil _, ((Below.refl _ w).alloc (Nat.le_refl _) _).alloc (by simp) _⟩

theorem ownsRow_below {W W' : World} {base : Nat} {e : TypeId} {size : Nat} {v : Value} {n : Nat} {xs : List Value} (h : W.ownsRow base e size v n xs) (hb : Below W.heap.size W W') : W'.ownsRow base e size v n xs :=
  h.kept (row := none) ⟨hb.os, hb.tape, hb.output, hb.size, fun k hk _ => hb.block k hk⟩ (by cases v.ownBlock <;> simp)

theorem own_ne {W : World} {base : Nat} {e T : TypeId} {v : Value} {n b : Nat} {xs : List Value} {cs : Array Value} {fr : Nat × Nat} (hown : W.ownsRow base e 1 v n xs) (hb : W.heap[b]? = some (.cells cs T fr)) (hTe : T ≠ e) : v.ownBlock ≠ some b := by
  rcases hown.2 with ⟨rfl, _⟩ | ⟨g, cap, cur, rfl, _, hg, _⟩
  · simp [Value.ownBlock]
  · simp only [Value.ownBlock]
    intro e1
    cases e1
    rw [hb] at hg
    cases hg
    exact hTe rfl

theorem ParInv.next {D : List UInt8} {neg : Bool} {w W w1 w2 : World} {b f g : Nat} {v v' : Value} {xs : List Int} {x : Int} {o : Obj} (h : ParInv D neg w b f W v xs) (hb1 : Below W.heap.size W w1)
    (hown : w2.ownsRow w.heap.size 3 1 v' (xs.length + 1) (xs.map (Value.int .i64) ++ [.int .i64 x])) (hgrow : (w1.alloc o).grownBy w2 v.ownBlock) (hx : x = (dval ((D.drop g).take (f - g)) : Int)) (h0 : 0 < f) (hg : g = f - 4) (hd : D.all isDig = true) :
    ParInv D neg w b g (w2.setCell ⟨b, 1, none⟩ v') v' (xs ++ [x]) := by
  have hlt := (Array.getElem?_eq_some_iff.1 h.box).1
  have s1 := hb1.size
  have s2 := h.below.size
  have hbox1 : (w1.alloc o).heap[b]? = some (.cells #[.bool neg, v] 50 (0, 0)) := (Lib.alloc_old w1 o b (by omega)).trans ((hb1.block b hlt).trans h.box)
  have hbox2 : w2.heap[b]? = some (.cells #[.bool neg, v] 50 (0, 0)) := by
    rw [hgrow.block b (by simp; omega) (fun e => h.ne e.symm)]
    exact hbox1
  have hne := own_ne hown hbox2 (by decide)
  have hfl := h.hf
  have hk : D.length - f = 4 * xs.length := by rcases h.len with e | e <;> omega
  have hdg := all_take (all_drop hd g) (f - g)
  have hdl : ((D.drop g).take (f - g)).length ≤ 4 := by rw [List.length_take]; omega
  have hx4 := dval4_lt hdg hdl
  have hle := h.le
  have hlr := (Array.getElem?_eq_some_iff.1 h.res).1
  have hres1 : (w1.alloc o).heap[w.heap.size]? = some (.cells #[.bool false, .slice none 0 0] 50 (0, 0)) := (Lib.alloc_old w1 o _ (by omega)).trans ((hb1.block _ hlr).trans h.res)
  have hres2 : w2.heap[w.heap.size]? = some (.cells #[.bool false, .slice none 0 0] 50 (0, 0)) := (hgrow.block _ (by simp; omega) (fun e => own_ne h.own h.res (by decide) e.symm)).trans hres1
  have hbb := h.hb
  refine ⟨by omega, ?_, ?_, h.hb, (Below.heap_setCell _ _ _ _ (by show w.heap.size ≠ b; omega)).trans hres2, hne, by simp only [List.length_append, List.length_cons, List.length_nil]; omega, by simp only [List.length_append, List.length_cons, List.length_nil]; omega, ?_, ?_, ?_⟩
  · rw [List.length_append, List.map_append]
    exact hown.kept (row := some b) ⟨rfl, rfl, rfl, by simp [World.setCell], fun k _ hk => Below.heap_setCell _ _ _ _ (fun e => hk (by simp [e]))⟩ (Or.inr hne)
  · simp [World.setCell, Array.getElem?_modify, hbox2]
  · rw [hx]
    exact parse_step (by omega) hk h.val
  · rw [hx]
    exact h.dgs.append (Dgs.one (Int.natCast_nonneg _) hx4)
  · exact (((h.below.trans (hb1.mono s2)).alloc (by omega) o).grown hgrow (by simp; omega) (fun k hk => (h.own.lt k hk).1)).setCell (p := ⟨b, 1, none⟩) (Nat.le_of_lt h.hb) _

theorem atoi4 (s : ByteArray) (hne : s.data.toList ≠ []) (hd : s.data.toList.all isDig = true) (hl : s.data.toList.length ≤ 4) (w : World) :
    Calls Tryz.prog 57 #[.string s] w fun e w' => e = .returned (.tuple #[.int .i64 (dval s.data.toList : Int), .nilIface]) ∧ Below w.heap.size w w' := by
  have h4 := dval4_lt hd hl
  refine (Tryz.strconv_Atoi_ok s (by rw [Lib.size_eq]; omega) _ (by rw [atoiAll_dig hne hd, if_pos (by omega)]) w).mono ?_
  rintro e w' ⟨rfl, rfl | ⟨t, rfl⟩⟩
  · exact ⟨rfl, Below.refl _ _⟩
  · exact ⟨rfl, Lib.bytesWorld_below w _ _⟩

set_option maxHeartbeats 2000000 in
set_option maxRecDepth 100000 in
theorem parse_any (s : ByteArray) (w : World) (hv : valid s.data.toList = true) :
    Calls Tryz.prog 59 #[.string s] w fun e w' => ∃ v, e = .returned v ∧ Par w' v (num s.data.toList) ∧ Below w.heap.size w w' := by
  obtain ⟨hD1, hD2, hD3, hD4⟩ := valid_parts hv
  have hP := fun w => Tryz.strings_TrimPrefix s ⟨#[45]⟩ w
  obtain ⟨d, hd⟩ : ∃ d : ByteArray, d = ⟨(Lib.trimPrefix s.data.toList [45]).toArray⟩ := ⟨_, rfl⟩
  have hP' : ∀ w, Calls Tryz.prog 73 #[.string s, .string ⟨#[45]⟩] w fun e w' => e = .returned (.string d) ∧ w' = w := by rw [hd]; exact hP
  have hdb : d.data.toList = body s.data.toList := by rw [hd, trimPrefix_body]
  clear hd hP
  obtain ⟨D, hDD⟩ : ∃ D, D = body s.data.toList := ⟨_, rfl⟩
  rw [← hDD] at hD1 hD2 hD3 hD4 hdb
  have hneg : decide ((d.size : Int) < (s.size : Int)) = decide (num s.data.toList < 0) := by
    apply decide_eq_decide.2
    rw [num_sign hv, ← body_shorter, Lib.size_eq, Lib.size_eq, hdb, hDD]
    omega
  have habs : (num s.data.toList).natAbs = dval D := by rw [num_abs, hDD]
  obtain ⟨neg, hnegd⟩ : ∃ neg, neg = decide (num s.data.toList < 0) := ⟨_, rfl⟩
  rw [← hnegd] at hneg
  obtain ⟨i0, hi, hz0, hz1, hz2⟩ := info_parts info3
  have hds : d.size = D.length := by rw [← hdb]; exact Lib.size_eq d
  have HABS := Lib.hid habs
  have HNEG := Lib.hid hnegd
  have HD3 := Lib.hid hD3
  clear habs hnegd hD4 hv hDD hD3
  go_enter Tryz.func59, Tryz.ntmps59
  go_wp2_with (go_at_call 73; refine (hP' _).mono ?_; rintro e w' ⟨rfl, rfl⟩)
  have hst := ParInv.start D neg w
  rw [← hneg, show decide ((d.size : Int) < (s.size : Int)) = decide (D.length < s.size) from decide_eq_decide.2 (by omega)] at hst
  have HS := Lib.hid hst
  have HDS := Lib.hid hds
  have HN : Hid (decide (D.length < s.size) = neg) := by rw [← hneg]; exact decide_eq_decide.2 (by omega)
  clear hst hds hneg
  go_loopw [3] (fun s3 wr => ∃ (f : Nat) (cur : ByteArray) (v : Value) (xs : List Int), s3 = .string cur ∧ cur.data.toList = D.take f ∧ Hid (ParInv D (decide (D.length < s.size)) w (w.heap.size + 1) f wr v xs)) (fun s3 _ => strLen s3)
  case atStart => exact ⟨D.length, d, _, _, rfl, by rw [hdb, List.take_length], HS⟩
  case round =>
    obtain ⟨f, cur, v, xs, rfl, hcur, HI⟩ := hrel
    have hf := HI.out.hf
    have hcs : cur.size = f := by rw [Lib.size_eq, hcur, List.length_take]; omega
    by_cases h0 : 0 < f
    · obtain ⟨g, hg⟩ : ∃ g, g = f - 4 := ⟨_, rfl⟩
      have hmax : max (0 : Int) ((f : Int) - 4) = (g : Int) := by omega
      have hgf : g ≤ f := by omega
      have hg4 : f - g ≤ 4 := by omega
      have hext : (cur.extract g f).data.toList = (D.drop g).take (f - g) := by
        rw [ByteArray.data_extract, Array.toList_extract, hcur, List.extract_eq_take_drop, List.drop_take, List.take_take]
        congr 1; omega
      have hxd := all_take (all_drop HD3.out g) (f - g)
      have hxl : ((D.drop g).take (f - g)).length = f - g := by rw [List.length_take, List.length_drop]; omega
      have hx4 := dval4_lt hxd (by omega)
      obtain ⟨x, hx⟩ : ∃ x : Int, x = (dval ((D.drop g).take (f - g)) : Int) := ⟨_, rfl⟩
      have hA : Hid (Calls Tryz.prog 57 #[.string (cur.extract g f)] wr fun e w' => e = .returned (.tuple #[.int .i64 x, .nilIface]) ∧ Below wr.heap.size wr w') := by
        have := atoi4 (cur.extract g f) (by rw [hext]; intro e; rw [e] at hxl; simp at hxl; omega) (by rw [hext]; exact hxd) (by rw [hext, hxl]; exact hg4) wr
        rw [hext, ← hx] at this
        exact this
      have hx0 : 0 ≤ x ∧ x < 10000 := by rw [hx]; exact ⟨Int.natCast_nonneg _, hx4⟩
      have HX := Lib.hid hx
      have HE := Lib.hid hext
      have HG := Lib.hid hg
      have HC := Lib.hid hcur
      have b1 := HI.out.below.size
      clear hx hext hg hcur hxd hxl hx4
      go_wp2_with fail
      refine hA.out.mono ?_
      rintro e w1 ⟨rfl, hb1⟩
      have hbox : w1.heap[w.heap.size + 1]? = some (.cells #[.bool (decide (D.length < s.size)), v] 50 (0, 0)) := (hb1.block _ (Array.getElem?_eq_some_iff.1 HI.out.box).1).trans HI.out.box
      have hc1 : w1.cell? ⟨w.heap.size + 1, 1, none⟩ = some v := by rw [Lib.cell_of_heap hbox]; rfl
      have hown1 := Lib.hid (ownsRow_below HI.out.own hb1)
      have hle := HI.out.le
      have b2 := hb1.size
      obtain ⟨av, nv, cv, rfl⟩ : ∃ av nv cv, v = .slice av nv cv := by
        rcases hown1.out.2 with ⟨h, _⟩ | ⟨_, _, _, h, _⟩ <;> exact ⟨_, _, _, h⟩
      have hlt := (Array.getElem?_eq_some_iff.1 HI.out.box).1
      go_wp2_with (at_builtin; go_must (refine wpList_append_own _ rfl _ _ 48 rfl w.heap.size 3 i0 (.int .i64 0) 1 8 Tryz.underlying48 hi hz0 hz1 hz2 rfl (by decide) _ _ _ rfl (hown1.out.alloc _) ⟨w1.heap.size, 0, none⟩ 1 1 [.int .i64 x] rfl rfl ?_ ?_ ?_ ?_ ?_ ?_); rotate_right; intro v' w2 hown' hgrow _; have HN2 := Lib.hid (HI.out.next hb1 hown' hgrow HX.out h0 HG.out HD3.out); have hbox2 : w2.heap[w.heap.size + 1]? = some (.cells #[.bool (decide (D.length < s.size)), .slice av nv cv] 50 (0, 0)) := (hgrow.block _ (by simp; omega) (fun e => HI.out.ne e.symm)).trans ((Lib.alloc_old w1 _ _ (by omega)).trans hbox); have f2 : w2.frozen? ⟨w.heap.size + 1, 1, none⟩ = false := Lib.frozen_of_heap hbox2 1; have c2 : w2.cell? ⟨w.heap.size + 1, 1, none⟩ = some (.slice av nv cv) := (by rw [Lib.cell_of_heap hbox2]; rfl); obtain ⟨av', nv', cv', rfl⟩ : ∃ av' nv' cv', v' = .slice av' nv' cv' := (by rcases hown'.2 with ⟨h, _⟩ | ⟨_, _, _, h, _⟩ <;> exact ⟨_, _, _, h⟩); clear hown' hgrow hbox hbox2 hA)
      · go_roundw
        case rel =>
          refine ⟨g, _, _, _, rfl, ?_, HN2⟩
          rw [ByteArray.data_extract, Array.toList_extract, HC.out, List.extract_eq_take_drop, List.drop_zero, List.take_take]
          congr 1; omega
        case measure => simp [strLen, ByteArray.size_extract]; omega
      · exact cell_one_new _ _ _
      · simp [Value.oneCell']
      · unfold maxLen; omega
      · omega
      · simp; omega
    · obtain rfl : f = 0 := by omega
      have hv0 := HI.out.val
      have hown1 := Lib.hid HI.out.own
      have hc1 : wr.cell? ⟨w.heap.size + 1, 1, none⟩ = some v := by rw [Lib.cell_of_heap HI.out.box]; rfl
      have hc0 : wr.cell? ⟨w.heap.size + 1, 0, none⟩ = some (.bool (decide (D.length < s.size))) := by rw [Lib.cell_of_heap HI.out.box]; rfl
      have f1 : wr.frozen? ⟨w.heap.size + 1, 1, none⟩ = false := Lib.frozen_of_heap HI.out.box 1
      have r0 : wr.cell? ⟨w.heap.size, 0, none⟩ = some (.bool false) := by rw [Lib.cell_of_heap HI.out.res]; rfl
      have r1 : wr.cell? ⟨w.heap.size, 1, none⟩ = some (.slice none 0 0) := by rw [Lib.cell_of_heap HI.out.res]; rfl
      have g0 : wr.frozen? ⟨w.heap.size, 0, none⟩ = false := Lib.frozen_of_heap HI.out.res 0
      have g1 : wr.frozen? ⟨w.heap.size, 1, none⟩ = false := Lib.frozen_of_heap HI.out.res 1
      have hle := HI.out.le
      rw [List.drop_zero] at hv0
      have HV := Lib.hid hv0
      have HC := Lib.hid hcur
      clear hv0 hcur
      go_wp2_with (go_at_call 65; go_must (refine (trimmed_any wr (by omega) (ownsRow_ints hown1.out)).mono ?_); rintro e w' ⟨r', k, rfl, hc, hi, haw2, rfl⟩; obtain ⟨ar, cr, rfl⟩ := hi.shape)
      have hfin : (((wr.setCell ⟨w.heap.size + 1, 1, none⟩ (.slice ar (min k xs.length) cr)).setCell ⟨w.heap.size, 0, none⟩ (.bool (decide (D.length < s.size)))).setCell ⟨w.heap.size, 1, none⟩ (.slice ar (min k xs.length) cr)).heap[w.heap.size]? = some (.cells #[.bool (decide (D.length < s.size)), .slice ar (min k xs.length) cr] 50 (0, 0)) := by
        simp [World.setCell, Array.getElem?_modify, HI.out.res]
      refine bodyPost_ret (results_cell_row (p := 2) (ty := 50) (by kernel_rfl) _ _ w.heap.size 50 _ (0, 0) _ rfl hfin Tryz.underlying50 rfl (by kernel_rfl)) rfl ?_
      have hn := num_of_trim HI.out.dgs HV.out hc hi
      have hne1 : v.ownBlock ≠ some w.heap.size := own_ne hown1.out HI.out.res (by decide)
      rw [List.length_take] at hn haw2
      refine ⟨_, rfl, ⟨_, by rw [HN.out, HNEG.out], ?_⟩, ?_⟩
      · rw [HABS.out]
        exact ((hn.cellAway (haw2 _ (away_ne HI.out.ne))).cellAway (haw2 _ (away_ne hne1))).cellAway (haw2 _ (away_ne hne1))
      · exact ((HI.out.below.setCell (p := ⟨w.heap.size + 1, 1, none⟩) (by show w.heap.size ≤ w.heap.size + 1; omega) _).setCell (p := ⟨w.heap.size, 0, none⟩) (Nat.le_refl _) _).setCell (p := ⟨w.heap.size, 1, none⟩) (Nat.le_refl _) _

end Go.Proofs.Tryz
