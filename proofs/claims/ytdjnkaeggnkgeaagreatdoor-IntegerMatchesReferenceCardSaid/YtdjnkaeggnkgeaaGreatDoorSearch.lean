/- 'sort.Search' with a function value that may make memory; the test of the division. -/
import Derived.Test.YtdjnkaeggnkgeaaGreatDoorTimes
import Derived.Deep.RegionHeld3
import Derived.Deep.RegionWith
namespace Go.Proofs.Tryz
open Go.RowKit Go.Proofs.Dt Go.Shelf

/-- What 'sort.Search' returns. -/
def SearchPost (p : Nat → Bool) (n : Nat) (w : World) (e : Ending) (w' : World) : Prop :=
  ∃ k : Nat, k ≤ n ∧ e = .returned (.int .i64 (k : Int)) ∧ (∀ i, i < k → p i = false) ∧ (∀ i, k ≤ i → i < n → p i = true) ∧ Below w.heap.size w w'

set_option maxRecDepth 100000 in
set_option maxHeartbeats 2000000 in
theorem search_any (g : Nat) (lb : Array Value) (p : Nat → Bool) (n : Nat) (w : World) (eg : ∀ args w, (callFunc g args).run Tryz.prog w = .ok (.enter g args) w) (hn : n ≤ 100000)
    (hf : ∀ (i : Nat) (W : World), i < n → Below w.heap.size w W → Calls Tryz.prog g (#[.int .i64 (i : Int)] ++ lb) W fun e w' => e = .returned (.bool (p i)) ∧ Below W.heap.size W w')
    (hm : ∀ i j, i ≤ j → j < n → p i = true → p j = true) :
    Calls Tryz.prog 67 #[.int .i64 (n : Int), .func (.func g) #[] lb] w (SearchPost p n w) := by
  have HF := Lib.hid hf
  have HM := Lib.hid hm
  clear hf hm
  go_enter Tryz.func67, Tryz.ntmps67
  go_wp2
  go_loopw [5, 6, 7] (fun s5 s6 _ wr => ∃ lo hi : Nat, s5 = .int .i64 lo ∧ s6 = .int .i64 hi ∧ lo ≤ hi ∧ hi ≤ n ∧ Hid ((∀ t, t < lo → p t = false) ∧ (∀ t, hi ≤ t → t < n → p t = true)) ∧ Below w.heap.size w wr)
    (fun s5 s6 _ _ => (intOf s6 - intOf s5).toNat)
  case atStart => exact ⟨0, n, rfl, rfl, Nat.zero_le _, Nat.le_refl _, ⟨fun t h => absurd h (Nat.not_lt_zero _), fun t h1 h2 => by omega⟩, Below.refl _ _⟩
  case round =>
    obtain ⟨lo, hi, rfl, rfl, hlh, hin, I, hb⟩ := hrel
    by_cases hlt : lo < hi
    · have hc := HF.out ((lo + hi) / 2) wr (by omega) hb
      rw [show (((lo + hi) / 2 : Nat) : Int) = ((lo : Int) + (hi : Int)) / 2 by omega] at hc
      cases hp : p ((lo + hi) / 2)
      · rw [hp] at hc
        have HP := Lib.hid hp
        have HC := Lib.hid hc
        clear hp hc
        go_wp2_with (go_at_fn g; go_must (refine HC.out.mono ?_); rintro e w' ⟨rfl, hb2⟩)
        go_roundw
        case rel => exact ⟨(lo + hi) / 2 + 1, hi, by go_num, rfl, by omega, hin, ⟨fun t ht => (by
            cases h : p t with
            | false => rfl
            | true => have := HM.out t ((lo + hi) / 2) (by omega) (by omega) h; rw [HP.out] at this; cases this), I.out.2⟩, hb.trans (hb2.mono hb.size)⟩
        case measure => simp [intOf]; omega
      · rw [hp] at hc
        have HP := Lib.hid hp
        have HC := Lib.hid hc
        clear hp hc
        go_wp2_with (go_at_fn g; go_must (refine HC.out.mono ?_); rintro e w' ⟨rfl, hb2⟩)
        go_roundw
        case rel => exact ⟨lo, (lo + hi) / 2, rfl, by go_num, by omega, by omega, ⟨I.out.1, fun t ht htn => HM.out ((lo + hi) / 2) t ht htn HP.out⟩, hb.trans (hb2.mono hb.size)⟩
        case measure => simp [intOf]; omega
    · obtain rfl : hi = lo := by omega
      go_wp2
      go_ret
      exact ⟨hi, hin, rfl, I.out.1, I.out.2, hb⟩

theorem gt_zero_cmp (x y : Nat) : decide (0 < cmpI (x : Int) (y : Int)) = decide (y < x) := by
  unfold cmpI
  by_cases h : (x : Int) < y
  · rw [if_pos h]; simp; omega
  · rw [if_neg h]
    by_cases h2 : (y : Int) < x
    · rw [if_pos h2]; simp; omega
    · rw [if_neg h2]; simp; omega

set_option maxRecDepth 100000 in
set_option maxHeartbeats 2000000 in
/-- 'tooMuch': is the product with one more than d greater than what is left? -/
theorem over1_any (b1 b2 : Nat) (mv rv : Value) (m r : Nat) (i : Nat) (W : World) (hi : i < 9999) (hm : Num W mv m) (hr : Num W rv r) (fm : Fits m) (fm2 : Fits (m * (i + 1)))
    (c1 : W.cell? ⟨b1, 0, none⟩ = some (.func (.func 64) #[mv] #[])) (c2 : W.cell? ⟨b2, 0, none⟩ = some rv) :
    Calls Tryz.prog 66 #[.int .i64 (i : Int), .pointer (some ⟨b1, 0, none⟩), .pointer (some ⟨b2, 0, none⟩)] W fun e w' => e = .returned (.bool (decide (r < m * (i + 1)))) ∧ Below W.heap.size W w' := by
  obtain ⟨am, lm, cm, rfl⟩ := hm.shape
  obtain ⟨ar, lr, cr, rfl⟩ := hr.shape
  have hb2 : b2 < W.heap.size := World.block_lt_of_cell? _ _ c2
  obtain ⟨P, hP⟩ : ∃ P, P = m * (i + 1) := ⟨_, rfl⟩
  rw [← hP] at fm2
  have HB : Hid (∀ W1 : World, Below W.heap.size W W1 → Calls Tryz.prog 64 #[.slice am lm cm, .int .i64 ((i : Int) + 1)] W1 (NumPost W1 P)) := fun W1 h => by
    rw [hP]
    have := by_any (.slice am lm cm) m ((i : Int) + 1) (by omega) (by omega) W1 (hm.below (Nat.le_refl _) h) fm
    rwa [show ((i : Int) + 1).toNat = i + 1 by omega] at this
  have F2 := Lib.hid fm2
  have HP := Lib.hid hP
  have hw : IntKind.i64.wrap ((i : Int) + 1) = (i : Int) + 1 := IntWalk.i64_in _ (by omega)
  clear fm fm2 hP
  go_enter Tryz.func66, Tryz.ntmps66
  go_wp2
  go_region_with (first
    | (go_at_call 64; go_must (refine (HB.out _ (by first | exact Below.refl _ _ | exact (Below.refl _ _).drew)).mono ?_); rintro e w1 ⟨q, rfl, hq, _, hb⟩; obtain ⟨aq, lq, cq, rfl⟩ := hq.shape; have hbW : Below W.heap.size W w1 := ⟨hb.os, hb.tape, hb.output, hb.size, hb.block⟩; have c3 := (hbW.cell (p := ⟨b2, 0, none⟩) hb2).trans c2)
    | (go_at_call 46; go_must (refine (compare_any _ _ _ _ _ hq (hr.below (Nat.le_refl _) hbW) F2.out).mono ?_); rintro e w2 ⟨rfl, hb3⟩))
  all_goals go_wp2
  all_goals go_ret
  all_goals exact ⟨by rw [← HP.out]; exact congrArg (fun b => Ending.returned (Value.bool b)) (gt_zero_cmp P r), hbW.trans (hb3.mono hbW.size)⟩

end Go.Proofs.Tryz
