/- 'fold': groups are combined one after the other, with a carry. -/
import Derived.Test.YtdjnkaeggnkgeaaGreatDoorClos
import Derived.Deep.OwnRows
import Derived.Laws.OwnMore
import Derived.OwnWalk
import Derived.WalkSmall
import Derived.Maps.AppendAt
namespace Go.Proofs.Tryz
open Go.RowKit Go.Proofs.Dt

theorem info3 : (Tryz.prog.info? 3).map (fun i => (i.zero, i.size, i.bytes)) = some (some (.int .i64 0), 1, 8) := by kernel_rfl

/-- A function value that returns the digit F i, and only reads. -/
def DigitAt (g : Nat) (lb : Array Value) (F : Nat → Int) (w : World) : Prop :=
  ∀ (i : Nat) (W : World), Below w.heap.size w W → Calls Tryz.prog g (#[.int .i64 (i : Int)] ++ lb) W fun e w' => e = .returned (.int .i64 (F i)) ∧ ∃ q, w' = W.drewN q

theorem ownsRow_ints {W : World} {B : Nat} {v : Value} {xs : List Int} (h : W.ownsRow B 3 1 v xs.length (xs.map (Value.int .i64))) : Ints W v xs := by
  have h0 := h
  obtain ⟨_, ⟨rfl, hn⟩ | ⟨g, cap, cur, rfl, hb, hg, hc, _, _, _⟩⟩ := h
  · exact .inl ⟨rfl, List.length_eq_zero_iff.1 hn⟩
  · refine .inr ⟨g, 0, cap, rfl, hc, (Array.getElem?_eq_some_iff.1 hg).1, fun j hj => ?_⟩
    rw [Nat.zero_add, h0.cellAt j (by omega), List.getElem?_map, List.getElem?_eq_getElem hj]; rfl

/-- What holds at the head of round k: c is the carry, xs what has been gathered. -/
structure FoldInv (F : Nat → Int) (n : Nat) (w : World) (k : Nat) (c : Int) (xs : List Int) (v : Value) (W : World) : Prop where
  own : W.ownsRow w.heap.size 3 1 v xs.length (xs.map (Value.int .i64))
  len : xs.length = k
  dgs : Dgs 10000 xs
  val : val 10000 xs + 10000 ^ k * c = sumTo 10000 F k
  pos : n ≤ k → 0 ≤ c
  one : n + 1 ≤ k → c ≤ 1
  zero : n + 2 ≤ k → c = 0

theorem sumTo_past {B : Int} {F : Nat → Int} {n : Nat} (hz : ∀ i, n ≤ i → F i = 0) : ∀ k, n ≤ k → sumTo B F k = sumTo B F n := by
  intro k hk
  induction k with
  | zero => obtain rfl : n = 0 := by omega
            rfl
  | succ k ih =>
    by_cases e : n = k + 1
    · rw [e]
    · simp only [sumTo]; rw [ih (by omega), hz k (by omega)]; simp

theorem FoldInv.drewN {F : Nat → Int} {n : Nat} {w wr : World} {k : Nat} {c : Int} {xs : List Int} {v : Value} (h : FoldInv F n w k c xs v wr) (q : Nat) : FoldInv F n w k c xs v (wr.drewN q) :=
  ⟨h.own, h.len, h.dgs, h.val, h.pos, h.one, h.zero⟩

theorem FoldInv.next {F : Nat → Int} {n : Nat} {w wr w1 : World} {k : Nat} {c : Int} {xs : List Int} {v v' : Value} (h : FoldInv F n w k c xs v wr) (hF : ∀ i, -10000 < F i ∧ F i ≤ 99980001) (hz : ∀ i, n ≤ i → F i = 0) (hp : 0 ≤ sumTo 10000 F n)
    (c0 : -1 ≤ c) (c1 : c ≤ 10001) {x y : Int} (hx : x = low 10000 (F k + c)) (hy : y = high 10000 (F k + c)) (hown : w1.ownsRow w.heap.size 3 1 v' (xs.length + 1) (xs.map (Value.int .i64) ++ [.int .i64 x])) :
    FoldInv F n w (k + 1) y (xs ++ [x]) v' w1 ∧ -1 ≤ y ∧ y ≤ 10001 := by
  have hk := hF k
  subst hx hy
  have hb : -10000 ≤ F k + c := by omega
  have hlo := low_bounds (B := 10000) (by decide) hb
  have hst := fold_step (B := 10000) (F := F) h.len h.val
  have hdg : Dgs 10000 (xs ++ [low 10000 (F k + c)]) := h.dgs.append (Dgs.one hlo.1 hlo.2)
  have hbd := val_bounds (B := 10000) (by decide) hdg
  have hln : (xs ++ [low 10000 (F k + c)]).length = k + 1 := by rw [List.length_append, h.len]; rfl
  rw [hln] at hbd
  have hhi : -1 ≤ high 10000 (F k + c) ∧ high 10000 (F k + c) ≤ 10001 := by unfold high; split <;> (try split) <;> omega
  refine ⟨⟨?_, hln, hdg, hst, fun hn => ?_, fun hn => ?_, fun hn => ?_⟩, hhi.1, hhi.2⟩
  · rw [List.length_append, List.map_append]; exact hown
  · have e := sumTo_past (B := 10000) hz (k + 1) hn
    rw [e] at hst
    have hpw := pow_pos (B := 10000) (by decide) (k + 1)
    by_cases h1 : high 10000 (F k + c) < 0
    · have : high 10000 (F k + c) = -1 := by omega
      rw [this] at hst
      omega
    · omega
  · have := h.pos (by omega)
    rw [hz k (by omega)]
    unfold high; split <;> (try split) <;> omega
  · have := h.pos (by omega)
    have := h.one (by omega)
    rw [hz k (by omega)]
    unfold high; split <;> (try split) <;> omega

theorem away_own {W : World} {B n : Nat} {v : Value} {ys : List Value} (h : W.ownsRow B 3 1 v n ys) : ∀ b, b < B → Away b v := by
  intro b hb a l c e
  have := h.lt a.block (by rw [e]; rfl)
  omega

set_option maxRecDepth 100000 in
set_option maxHeartbeats 2000000 in
theorem fold_any (g : Nat) (lb : Array Value) (F : Nat → Int) (n : Nat) (w : World) (eg : ∀ args w, (callFunc g args).run Tryz.prog w = .ok (.enter g args) w) (hn : n ≤ 100000)
    (hF : ∀ i, -10000 < F i ∧ F i ≤ 99980001) (hz : ∀ i, n ≤ i → F i = 0) (hp : 0 ≤ sumTo 10000 F n) (hf : DigitAt g lb F w) :
    Calls Tryz.prog 68 #[.int .i64 (n : Int), .int .i64 0, .func (.func g) #[] lb] w fun e w' => ∃ v xs, e = .returned v ∧ Ints w' v xs ∧ Dgs 10000 xs ∧ val 10000 xs = sumTo 10000 F n ∧ xs.length ≤ n + 2 ∧ (∀ b, b < w.heap.size → Away b v) ∧ Below w.heap.size w w' := by
  have HF := Lib.hid hF
  have HZ := Lib.hid hz
  have HP := Lib.hid hp
  have HD := Lib.hid hf
  clear hF hz hp hf
  obtain ⟨i0, hi, hz0, hz1, hz2⟩ := info_parts info3
  go_enter Tryz.func68, Tryz.ntmps68
  go_wp2_with (at_make; refine wpList_make_own _ rfl _ _ 48 rfl w.heap.size 3 i0 (.int .i64 0) 1 Tryz.underlying48 hi hz0 hz1 .i64 .i64 _ (n + 1) rfl rfl (by omega) (by rw [hz2]; omega) (by unfold maxLen; omega) (Nat.le_refl _) ?_; intro w0 hown0 hgrow0)
  have hb0 : Below w.heap.size w w0 := (Below.refl _ w).grown hgrow0 (Nat.le_refl _) (fun k e => by cases e)
  have hst : FoldInv F n w 0 0 [] (.slice (some ⟨w.heap.size, 0, none⟩) 0 (n + 1)) w0 := ⟨by simpa using hown0, rfl, Dgs.nil _, by simp [val_nil, sumTo], by omega, by omega, by omega⟩
  have HS := Lib.hid hst
  clear hst hown0 hgrow0
  go_loopw [1, 7, 8, 9] (fun c v i _ wr => ∃ (k : Nat) (cc : Int) (xs : List Int), i = .int .i64 k ∧ c = .int .i64 cc ∧ -1 ≤ cc ∧ cc ≤ 10001 ∧ k ≤ n + 2 ∧ Hid (FoldInv F n w k cc xs v wr) ∧ Below w.heap.size w wr) (fun _ _ i _ _ => n + 3 - (intOf i).toNat)
  case atStart => exact ⟨0, 0, [], rfl, rfl, by omega, by omega, by omega, HS, hb0⟩
  case round =>
    obtain ⟨k, cc, xs, rfl, rfl, c0, c1, hk, HI, hbr⟩ := hrel
    by_cases hgo : k < n ∨ cc ≠ 0
    · have hk1 : k + 1 ≤ n + 2 := by
        rcases Nat.lt_or_ge (k + 1) (n + 3) with h | h
        · omega
        · have := HI.out.zero (by omega); omega
      have hFk := HF.out k
      obtain ⟨fk, hfk⟩ : ∃ fk, fk = F k := ⟨_, rfl⟩
      have hd : Hid (Calls Tryz.prog g (#[.int .i64 (k : Int)] ++ lb) wr fun e w' => e = .returned (.int .i64 fk) ∧ FoldInv F n w k cc xs u7 w' ∧ Below w.heap.size w w') :=
        (HD.out k wr hbr).mono fun e w' ⟨he, q, hq⟩ => ⟨by rw [he, hfk], by rw [hq]; exact HI.out.drewN q, by rw [hq]; exact below_drewN hbr q⟩
      rw [← hfk] at hFk
      have HFK := Lib.hid hfk
      have hkn : k ≤ 100002 := by omega
      clear hfk
      have hb1 := hbr.size
      clear HD HI
      rcases (show k < n ∨ (n ≤ k ∧ cc ≠ 0) by omega) with hkn1 | ⟨hkn1, hc0⟩
      · clear hgo
        rcases (show fk + cc < 0 ∨ (0 ≤ fk + cc ∧ 10000 ≤ fk + cc) ∨ (0 ≤ fk + cc ∧ fk + cc < 10000) by omega) with h1 | ⟨h0, h1⟩ | ⟨h0, h1⟩
        · go_wp2_with fail
          refine hd.out.mono ?_
          rintro e w' ⟨rfl, hinv, hb'⟩
          have hown := Lib.hid hinv.own
          have hlen := Lib.hid hinv.len
          have hb2 := hb'.size
          have HINV := Lib.hid hinv
          clear hd hinv
          go_wp2_with (at_builtin; go_must (refine wpList_append_own _ rfl _ _ 48 rfl w.heap.size 3 i0 (.int .i64 0) 1 8 Tryz.underlying48 hi hz0 hz1 hz2 rfl (by decide) _ _ _ rfl (hown.out.alloc _) ⟨w'.heap.size, 0, none⟩ 1 1 [.int .i64 (fk + cc + 10000)] rfl rfl ?_ ?_ ?_ ?_ ?_ ?_); rotate_right; intro v' w1 hown' hgrow _)
          · obtain ⟨N1, N2, N3⟩ := HINV.out.next HF.out HZ.out HP.out c0 c1 (x := fk + cc + 10000) (y := -1) (by rw [← HFK.out]; unfold low; rw [if_pos h1]) (by rw [← HFK.out]; unfold high; rw [if_pos h1]) hown'
            go_roundw
            case rel => exact ⟨k + 1, _, _, by go_num, rfl, N2, N3, hk1, N1, (hb'.alloc (by omega) _).grown hgrow (by simp; omega) (fun j hj => (hown.out.lt j hj).1)⟩
            case measure => simp [intOf]; omega
          · exact cell_one_new _ _ _
          · simp [Value.oneCell']
          · unfold maxLen; rw [hlen.out]; omega
          · rw [hlen.out]; omega
          · simp; omega
        · go_wp2_with fail
          refine hd.out.mono ?_
          rintro e w' ⟨rfl, hinv, hb'⟩
          have hown := Lib.hid hinv.own
          have hlen := Lib.hid hinv.len
          have hb2 := hb'.size
          have HINV := Lib.hid hinv
          clear hd hinv
          go_wp2_with (at_builtin; go_must (refine wpList_append_own _ rfl _ _ 48 rfl w.heap.size 3 i0 (.int .i64 0) 1 8 Tryz.underlying48 hi hz0 hz1 hz2 rfl (by decide) _ _ _ rfl (hown.out.alloc _) ⟨w'.heap.size, 0, none⟩ 1 1 [.int .i64 ((fk + cc) % 10000)] rfl rfl ?_ ?_ ?_ ?_ ?_ ?_); rotate_right; intro v' w1 hown' hgrow _)
          · obtain ⟨N1, N2, N3⟩ := HINV.out.next HF.out HZ.out HP.out c0 c1 (x := (fk + cc) % 10000) (y := (fk + cc) / 10000) (by rw [← HFK.out]; unfold low; rw [if_neg (by omega), if_pos (by omega)]) (by rw [← HFK.out]; unfold high; rw [if_neg (by omega), if_pos (by omega)]) hown'
            go_roundw
            case rel => exact ⟨k + 1, _, _, by go_num, rfl, N2, N3, hk1, N1, (hb'.alloc (by omega) _).grown hgrow (by simp; omega) (fun j hj => (hown.out.lt j hj).1)⟩
            case measure => simp [intOf]; omega
          · exact cell_one_new _ _ _
          · simp [Value.oneCell']
          · unfold maxLen; rw [hlen.out]; omega
          · rw [hlen.out]; omega
          · simp; omega
        · go_wp2_with fail
          refine hd.out.mono ?_
          rintro e w' ⟨rfl, hinv, hb'⟩
          have hown := Lib.hid hinv.own
          have hlen := Lib.hid hinv.len
          have hb2 := hb'.size
          have HINV := Lib.hid hinv
          clear hd hinv
          go_wp2_with (at_builtin; go_must (refine wpList_append_own _ rfl _ _ 48 rfl w.heap.size 3 i0 (.int .i64 0) 1 8 Tryz.underlying48 hi hz0 hz1 hz2 rfl (by decide) _ _ _ rfl (hown.out.alloc _) ⟨w'.heap.size, 0, none⟩ 1 1 [.int .i64 (fk + cc)] rfl rfl ?_ ?_ ?_ ?_ ?_ ?_); rotate_right; intro v' w1 hown' hgrow _)
          · obtain ⟨N1, N2, N3⟩ := HINV.out.next HF.out HZ.out HP.out c0 c1 (x := fk + cc) (y := 0) (by rw [← HFK.out]; unfold low; rw [if_neg (by omega), if_neg (by omega)]) (by rw [← HFK.out]; unfold high; rw [if_neg (by omega), if_neg (by omega)]) hown'
            go_roundw
            case rel => exact ⟨k + 1, _, _, by go_num, rfl, N2, N3, hk1, N1, (hb'.alloc (by omega) _).grown hgrow (by simp; omega) (fun j hj => (hown.out.lt j hj).1)⟩
            case measure => simp [intOf]; omega
          · exact cell_one_new _ _ _
          · simp [Value.oneCell']
          · unfold maxLen; rw [hlen.out]; omega
          · rw [hlen.out]; omega
          · simp; omega
      · clear hgo
        have hc0b : (cc != 0) = true := by simpa using hc0
        clear hc0
        rcases (show fk + cc < 0 ∨ (0 ≤ fk + cc ∧ 10000 ≤ fk + cc) ∨ (0 ≤ fk + cc ∧ fk + cc < 10000) by omega) with h1 | ⟨h0, h1⟩ | ⟨h0, h1⟩
        · go_wp2_with fail
          refine hd.out.mono ?_
          rintro e w' ⟨rfl, hinv, hb'⟩
          have hown := Lib.hid hinv.own
          have hlen := Lib.hid hinv.len
          have hb2 := hb'.size
          have HINV := Lib.hid hinv
          clear hd hinv
          go_wp2_with (at_builtin; go_must (refine wpList_append_own _ rfl _ _ 48 rfl w.heap.size 3 i0 (.int .i64 0) 1 8 Tryz.underlying48 hi hz0 hz1 hz2 rfl (by decide) _ _ _ rfl (hown.out.alloc _) ⟨w'.heap.size, 0, none⟩ 1 1 [.int .i64 (fk + cc + 10000)] rfl rfl ?_ ?_ ?_ ?_ ?_ ?_); rotate_right; intro v' w1 hown' hgrow _)
          · obtain ⟨N1, N2, N3⟩ := HINV.out.next HF.out HZ.out HP.out c0 c1 (x := fk + cc + 10000) (y := -1) (by rw [← HFK.out]; unfold low; rw [if_pos h1]) (by rw [← HFK.out]; unfold high; rw [if_pos h1]) hown'
            go_roundw
            case rel => exact ⟨k + 1, _, _, by go_num, rfl, N2, N3, hk1, N1, (hb'.alloc (by omega) _).grown hgrow (by simp; omega) (fun j hj => (hown.out.lt j hj).1)⟩
            case measure => simp [intOf]; omega
          · exact cell_one_new _ _ _
          · simp [Value.oneCell']
          · unfold maxLen; rw [hlen.out]; omega
          · rw [hlen.out]; omega
          · simp; omega
        · go_wp2_with fail
          refine hd.out.mono ?_
          rintro e w' ⟨rfl, hinv, hb'⟩
          have hown := Lib.hid hinv.own
          have hlen := Lib.hid hinv.len
          have hb2 := hb'.size
          have HINV := Lib.hid hinv
          clear hd hinv
          go_wp2_with (at_builtin; go_must (refine wpList_append_own _ rfl _ _ 48 rfl w.heap.size 3 i0 (.int .i64 0) 1 8 Tryz.underlying48 hi hz0 hz1 hz2 rfl (by decide) _ _ _ rfl (hown.out.alloc _) ⟨w'.heap.size, 0, none⟩ 1 1 [.int .i64 ((fk + cc) % 10000)] rfl rfl ?_ ?_ ?_ ?_ ?_ ?_); rotate_right; intro v' w1 hown' hgrow _)
          · obtain ⟨N1, N2, N3⟩ := HINV.out.next HF.out HZ.out HP.out c0 c1 (x := (fk + cc) % 10000) (y := (fk + cc) / 10000) (by rw [← HFK.out]; unfold low; rw [if_neg (by omega), if_pos (by omega)]) (by rw [← HFK.out]; unfold high; rw [if_neg (by omega), if_pos (by omega)]) hown'
            go_roundw
            case rel => exact ⟨k + 1, _, _, by go_num, rfl, N2, N3, hk1, N1, (hb'.alloc (by omega) _).grown hgrow (by simp; omega) (fun j hj => (hown.out.lt j hj).1)⟩
            case measure => simp [intOf]; omega
          · exact cell_one_new _ _ _
          · simp [Value.oneCell']
          · unfold maxLen; rw [hlen.out]; omega
          · rw [hlen.out]; omega
          · simp; omega
        · go_wp2_with fail
          refine hd.out.mono ?_
          rintro e w' ⟨rfl, hinv, hb'⟩
          have hown := Lib.hid hinv.own
          have hlen := Lib.hid hinv.len
          have hb2 := hb'.size
          have HINV := Lib.hid hinv
          clear hd hinv
          go_wp2_with (at_builtin; go_must (refine wpList_append_own _ rfl _ _ 48 rfl w.heap.size 3 i0 (.int .i64 0) 1 8 Tryz.underlying48 hi hz0 hz1 hz2 rfl (by decide) _ _ _ rfl (hown.out.alloc _) ⟨w'.heap.size, 0, none⟩ 1 1 [.int .i64 (fk + cc)] rfl rfl ?_ ?_ ?_ ?_ ?_ ?_); rotate_right; intro v' w1 hown' hgrow _)
          · obtain ⟨N1, N2, N3⟩ := HINV.out.next HF.out HZ.out HP.out c0 c1 (x := fk + cc) (y := 0) (by rw [← HFK.out]; unfold low; rw [if_neg (by omega), if_neg (by omega)]) (by rw [← HFK.out]; unfold high; rw [if_neg (by omega), if_neg (by omega)]) hown'
            go_roundw
            case rel => exact ⟨k + 1, _, _, by go_num, rfl, N2, N3, hk1, N1, (hb'.alloc (by omega) _).grown hgrow (by simp; omega) (fun j hj => (hown.out.lt j hj).1)⟩
            case measure => simp [intOf]; omega
          · exact cell_one_new _ _ _
          · simp [Value.oneCell']
          · unfold maxLen; rw [hlen.out]; omega
          · rw [hlen.out]; omega
          · simp; omega
    · obtain rfl : cc = 0 := by omega
      have hk2 : n ≤ k := by omega
      go_wp2
      go_ret
      refine ⟨_, xs, rfl, ownsRow_ints HI.out.own, HI.out.dgs, ?_, by rw [HI.out.len]; exact hk, away_own HI.out.own, hbr⟩
      have := HI.out.val
      rw [sumTo_past HZ.out k hk2] at this
      rw [← this]; simp

end Go.Proofs.Tryz
