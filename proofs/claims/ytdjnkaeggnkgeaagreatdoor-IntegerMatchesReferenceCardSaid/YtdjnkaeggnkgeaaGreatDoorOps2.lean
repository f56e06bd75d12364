/- Mul: what it returns. -/
import Derived.Test.YtdjnkaeggnkgeaaGreatDoorOps1
namespace Go.Proofs.Tryz
open Go.RowKit Go.Shelf Go.Proofs.Dt

/-- What is known of what 'both' read. -/
structure Got (s t : ByteArray) (p q : Bool) (a b : Nat) : Prop where
  hs : valid s.data.toList = true
  ht : valid t.data.toList = true
  hx : sv p a = num s.data.toList
  hy : sv q b = num t.data.toList
  la : Lim 50 a
  lb : Lim 50 b
  hp : p = decide (num s.data.toList < 0)
  hq : q = decide (num t.data.toList < 0)
  ha : a = (num s.data.toList).natAbs
  hb : b = (num t.data.toList).natAbs

/-- 'both', its numbers behind names. -/
theorem both_gen (s t : ByteArray) (w : World) : Calls Tryz.prog 38 #[.string s, .string t] w fun e w' =>
    (∃ p q a b ax lx cx ay ly cy, e = .returned (.tuple #[.agg #[.bool p, .slice ax lx cx], .agg #[.bool q, .slice ay ly cy], .bool true]) ∧ Num w' (.slice ax lx cx) a ∧ Num w' (.slice ay ly cy) b ∧ Hid (Got s t p q a b) ∧ Below w.heap.size w w') ∨
    (e = .returned (.tuple #[.agg #[.bool false, .slice none 0 0], .agg #[.bool false, .slice none 0 0], .bool false]) ∧ Hid ((valid s.data.toList && valid t.data.toList) = false) ∧ Below w.heap.size w w') := by
  refine (both_any s t w).mono ?_
  rintro e w1 (⟨hs, ht, x, y, rfl, ⟨rx, rfl, nx⟩, ⟨ry, rfl, ny⟩, hb1⟩ | ⟨hno, rfl, hb1⟩)
  · obtain ⟨ax, lx, cx, rfl⟩ := nx.shape
    obtain ⟨ay, ly, cy, rfl⟩ := ny.shape
    exact .inl ⟨_, _, _, _, _, _, _, _, _, _, rfl, nx, ny, ⟨hs, ht, sv_num _, sv_num _, lim_num hs, lim_num ht, rfl, rfl, rfl, rfl⟩, hb1⟩
  · exact .inr ⟨rfl, hno, hb1⟩

set_option maxHeartbeats 4000000 in
set_option maxRecDepth 100000 in
theorem mul_any (s t : ByteArray) (w : World) (ht : Tab w) : Calls Tryz.prog 15 #[.string s, .string t] w (OpPost w (mulS s.data.toList t.data.toList)) := by
  have HT := Lib.hid ht
  clear ht
  obtain ⟨q1, hq1⟩ : ∃ q1 : ByteArray, q1 = ⟨(mulS s.data.toList t.data.toList).1.toArray⟩ := ⟨_, rfl⟩
  obtain ⟨q2, hq2⟩ : ∃ q2 : Int, q2 = (mulS s.data.toList t.data.toList).2 := ⟨_, rfl⟩
  suffices h : Calls Tryz.prog 15 #[.string s, .string t] w fun e w' => e = .returned (.tuple #[.string q1, .int .i64 q2]) ∧ Below w.heap.size w w' by
    refine h.mono ?_
    rintro e w' ⟨rfl, hb⟩
    exact ⟨by rw [hq1, hq2]; rfl, hb⟩
  have HQ1 := Lib.hid hq1
  have HQ2 := Lib.hid hq2
  clear hq1 hq2
  go_enter Tryz.func15, Tryz.ntmps15
  go_wp2_with fail
  refine (both_gen s t w).mono ?_
  rintro e w1 (⟨p, q, a, b, ax, lx, cx, ay, ly, cy, rfl, nx, ny, HG, hb1⟩ | ⟨rfl, hno, hb1⟩)
  · have S1 := Two.start w1 (.bool p) (.slice ax lx cx) (.bool q) (.slice ay ly cy)
    have hTx : Hid (∀ (r : Value) (W : World), Num W r (a * b) → Below w.heap.size w W → Calls Tryz.prog 40 #[.agg #[.bool (p != q), r]] W fun e w' => e = .returned (.tuple #[.string q1, .int .i64 q2]) ∧ Below W.heap.size W w') := by
      intro r W hr hB
      have hsv : sv (p != q) (a * b) = num s.data.toList * num t.data.toList := by rw [sv_mul, HG.out.hx, HG.out.hy]
      have hl : Lim 400 (num s.data.toList * num t.data.toList).natAbs := by
        rw [← hsv, sv_abs]; exact (HG.out.la.mul HG.out.lb).mono (by omega)
      rw [HQ1.out, HQ2.out, show mulS s.data.toList t.data.toList = res (num s.data.toList * num t.data.toList) from bin_yes HG.out.hs HG.out.ht]
      exact text_res hr hsv hl (HT.out.below hB)
    go_wp2_with fail
    generalize ((w1.alloc (.cells #[.bool p, .slice ax lx cx] 50)).alloc (.cells #[.bool q, .slice ay ly cy] 50)) = W1 at S1 ⊢
    have D0 := S1.next (W' := W1.drew) ⟨rfl, rfl, rfl, Nat.le_refl _, fun _ _ => rfl⟩
    have HN := Lib.hid (times_any _ _ _ _ W1.drew (nx.below (Nat.le_refl _) D0.below) (ny.below (Nat.le_refl _) D0.below) (HG.out.la.mono (by omega)) (HG.out.lb.mono (by omega)))
    have HB := Lib.hid (hb1.trans (D0.below.mono hb1.size))
    have mixed : Tryz.prog.follows .mixedOrders = true := by kernel_rfl
    clear nx ny hb1 HG HT S1
    go_region_held3 (fun w' => w'.cell? ⟨w1.heap.size, 0, none⟩ = some (.bool p) ∧ w'.cell? ⟨w1.heap.size, 1, none⟩ = some (.slice ax lx cx) ∧ w'.cell? ⟨w1.heap.size + 1, 0, none⟩ = some (.bool q) ∧ w'.cell? ⟨w1.heap.size + 1, 1, none⟩ = some (.slice ay ly cy))
      (first | exact D0.all | exact D1.all | exact D2.all)
      (first
        | (go_at_call 41; refine HN.out.mono ?_; rintro e w2 ⟨r, rfl, hr, _, hb2⟩; obtain ⟨ar, lr, cr, rfl⟩ := hr.shape; have D1 := D0.next hb2; have HB2 := Lib.hid (HB.out.trans (hb2.mono HB.out.size)))
        | (go_at_call 40; refine (hTx.out _ _ hr HB2.out).mono ?_; rintro e w3 ⟨rfl, hb3⟩; have D2 := D1.next hb3; have HB3 := Lib.hid (HB2.out.trans (hb3.mono HB2.out.size))))
    go_wp2
    go_ret2
    exact ⟨rfl, HB3.out⟩
  · go_wp2
    go_ret2
    exact ⟨by rw [HQ1.out, HQ2.out]; unfold mulS; rw [bin_no hno.out]; rfl, hb1.trans (((Below.refl _ w1).alloc (Nat.le_refl _) _).alloc (by simp) _ |>.mono hb1.size)⟩

end Go.Proofs.Tryz
