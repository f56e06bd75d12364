/- Div: what it returns.
Gcd: what it returns. -/
import Derived.Test.YtjjmabokoendbaaGreatDoorIF
import Derived.Test.YtjjmabokoendbaaGreatDoorIC
namespace Go.Proofs.Tryz
open Go.RowKit Go.Shelf Go.Proofs.Dt

theorem Num.len0 {W : World} {a : Option Addr} {l c n : Nat} (h : Num W (.slice a l c) n) : l = 0 ↔ n = 0 := by
  obtain ⟨xs, ix, rx⟩ := h
  obtain ⟨a', c', e⟩ := ix.shape
  simp only [Value.slice.injEq] at e
  rw [e.2.1, List.length_eq_zero_iff]
  exact rx.pos (by decide)

/-- The signs of a division with a remainder that is not negative. -/
theorem div_signs (p q : Bool) (a b : Nat) (x y : Int) (hx : sv p a = x) (hy : sv q b = y) (hb : b ≠ 0) :
    (p = false ∨ a % b = 0 → sv (p != q) (a / b) = x / y ∧ ((a % b : Nat) : Int) = x % y) ∧
    (p = true ∧ a % b ≠ 0 → sv (p != q) (a / b + 1) = x / y ∧ ((b - a % b : Nat) : Int) = x % y) := by
  have hb0 : 0 < b := Nat.pos_of_ne_zero hb
  have hdm := Nat.div_add_mod a b
  have hml := Nat.mod_lt a hb0
  have key : ∀ (Q R : Int), Q * y + R = x → 0 ≤ R → R < (b : Int) → Q = x / y ∧ R = x % y := by
    intro Q R h h0 h1
    cases q with
    | false =>
      have hyb : y = (b : Int) := by rw [← hy]; rfl
      have := (Int.ediv_emod_unique (a := x) (b := y) (r := R) (q := Q) (by omega)).2 ⟨by rw [← h, Int.mul_comm y Q, Int.add_comm], h0, by omega⟩
      exact ⟨this.1.symm, this.2.symm⟩
    | true =>
      have hyb : y = -(b : Int) := by rw [← hy]; rfl
      have := (Int.ediv_emod_unique' (a := x) (b := y) (r := R) (q := Q) (by omega)).2 ⟨by rw [← h, Int.mul_comm y Q, Int.add_comm], h0, by omega⟩
      exact ⟨this.1.symm, this.2.symm⟩
  generalize hQ : a / b = Q at hdm ⊢
  generalize hR : a % b = R at hdm hml ⊢
  have hm : ((b * Q : Nat) : Int) = (b : Int) * (Q : Int) := Int.natCast_mul b Q
  refine ⟨fun h => key _ _ ?_ (Int.natCast_nonneg _) (by omega), fun h => key _ _ ?_ (Int.natCast_nonneg _) (by omega)⟩
  · have ha : (a : Int) = (b : Int) * (Q : Int) + (R : Int) := by omega
    rw [← hx, ← hy]
    cases p with
    | false =>
      cases q with
      | false => simp only [sv, Bool.false_bne, Bool.false_eq_true, if_false]; grind
      | true => simp only [sv, Bool.false_bne, Bool.false_eq_true, if_false, if_true]; grind
    | true =>
      have hR0 : R = 0 := by rcases h with e | e; cases e; exact e
      subst hR0
      cases q <;> simp [sv] <;> grind
  · have ha : (a : Int) = (b : Int) * (Q : Int) + (R : Int) := by omega
    have hbR : ((b - R : Nat) : Int) = (b : Int) - (R : Int) := by omega
    have hp := h.1
    subst hp
    rw [← hx, ← hy, hbR]
    cases q <;> simp [sv] <;> grind

theorem divS_yes {s t : List UInt8} (hs : valid s = true) (ht : valid t = true) (h0 : num t ≠ 0) : divS s t = if (num s / num t).natAbs < limit then (str (num s / num t), str (num s % num t), 0) else ([], [], 30) := by
  unfold divS; rw [hs, ht, decide_eq_true h0]; rfl
theorem divS_no {s t : List UInt8} (h : (valid s && valid t) = false) : divS s t = ([], [], 30) := by unfold divS; rw [h]; rfl

set_option maxHeartbeats 4000000 in
set_option maxRecDepth 100000 in
theorem div_any (s t : ByteArray) (w : World) (ht : Tab w) : Calls Tryz.prog 47 #[.string s, .string t] w fun e w' =>
    e = .returned (.tuple #[.string ⟨(divS s.data.toList t.data.toList).1.toArray⟩, .string ⟨(divS s.data.toList t.data.toList).2.1.toArray⟩, .int .i64 (divS s.data.toList t.data.toList).2.2]) ∧ Below w.heap.size w w' := by
  have HT := Lib.hid ht
  clear ht
  obtain ⟨d1, hd1⟩ : ∃ d : ByteArray, d = ⟨(divS s.data.toList t.data.toList).1.toArray⟩ := ⟨_, rfl⟩
  obtain ⟨d2, hd2⟩ : ∃ d : ByteArray, d = ⟨(divS s.data.toList t.data.toList).2.1.toArray⟩ := ⟨_, rfl⟩
  obtain ⟨d3, hd3⟩ : ∃ d : Int, d = (divS s.data.toList t.data.toList).2.2 := ⟨_, rfl⟩
  rw [← hd1, ← hd2, ← hd3]
  have HD1 := Lib.hid hd1
  have HD2 := Lib.hid hd2
  have HD3 := Lib.hid hd3
  clear hd1 hd2 hd3
  go_enter Tryz.func47, Tryz.ntmps47
  go_wp2_with fail
  refine (both_gen s t w).mono ?_
  rintro e w1 (⟨p, q, a, b, ax, lx, cx, ay, ly, cy, rfl, nx, ny, HG, hb1⟩ | ⟨rfl, hno, hb1⟩)
  · have S1 := Two.start w1 (.bool p) (.slice ax lx cx) (.bool q) (.slice ay ly cy)
    have hB := hb1.trans (S1.below.mono hb1.size)
    have nx1 := nx.below (Nat.le_refl _) S1.below
    have ny1 := ny.below (Nat.le_refl _) S1.below
    have hl0 := ny.len0
    by_cases hb0 : b = 0
    · obtain rfl : ly = 0 := hl0.2 hb0
      have hno : divS s.data.toList t.data.toList = ([], [], 30) := by
        have : num t.data.toList = 0 := by rw [← HG.out.hy, hb0]; cases q <;> rfl
        unfold divS; rw [this]; simp
      have g1 : d1 = ⟨#[]⟩ := by rw [HD1.out, hno]
      have g2 : d2 = ⟨#[]⟩ := by rw [HD2.out, hno]
      have g3 : d3 = 30 := by rw [HD3.out, hno]
      clear HD1 HD2 HD3 hno S1 nx1 ny1 hl0 nx ny
      go_wp2
      go_ret3
      exact ⟨by rw [g1, g2, g3]; rfl, hB⟩
    · have hly : ((ly : Int) == 0) = false := by
        have : ly ≠ 0 := fun e => hb0 (hl0.1 e)
        simpa using this
      have HOV := Lib.hid (over_any _ _ a b _ nx1 ny1 (HG.out.la.mono (by omega)) (HG.out.lb.mono (by omega)) (Nat.pos_of_ne_zero hb0))
      have HB := Lib.hid hB
      have HB0 := Lib.hid hb0
      have HY := Lib.hid ny1
      clear nx ny nx1 hl0 hb1 hB ny1 hb0
      generalize hW1 : ((w1.alloc (.cells #[.bool p, .slice ax lx cx] 91)).alloc (.cells #[.bool q, .slice ay ly cy] 91)) = W1 at S1 HOV HB HY
      have c00 := S1.c00; have c01 := S1.c01; have c10 := S1.c10; have c11 := S1.c11
      go_wp2_with fail
      refine HOV.out.mono ?_
      rintro e w2 ⟨qv, rv, rfl, hq, hr, hb2⟩
      obtain ⟨aq, lq, cq, rfl⟩ := hq.shape
      obtain ⟨ar, lr, cr, rfl⟩ := hr.shape
      have S4 := S1.next hb2
      have HBq := Lib.hid (HB.out.trans (hb2.mono HB.out.size))
      have hlr := hr.len0
      have HSG := Lib.hid (div_signs p q a b _ _ HG.out.hx HG.out.hy HB0.out)
      have HTN : Hid (num t.data.toList ≠ 0) := by
        intro e
        have h := HG.out.hy
        rw [e] at h
        have := congrArg Int.natAbs h
        rw [sv_abs] at this
        exact HB0.out this
      obtain ⟨u1, hu1⟩ : ∃ u : ByteArray, u = ⟨(res (num s.data.toList / num t.data.toList)).1.toArray⟩ := ⟨_, rfl⟩
      obtain ⟨u2, hu2⟩ : ∃ u : Int, u = (res (num s.data.toList / num t.data.toList)).2 := ⟨_, rfl⟩
      obtain ⟨v1, hv1⟩ : ∃ u : ByteArray, u = ⟨(str (num s.data.toList % num t.data.toList)).toArray⟩ := ⟨_, rfl⟩
      have hOK : Hid (u2 = 0 → d1 = u1 ∧ d2 = v1 ∧ d3 = 0) := by
        intro h
        rw [hu2] at h
        unfold res at hu1 h
        rw [HD1.out, HD2.out, HD3.out, divS_yes HG.out.hs HG.out.ht HTN.out]
        split at h
        · rename_i hl
          rw [if_pos hl] at hu1 ⊢
          exact ⟨hu1.symm, hv1.symm, rfl⟩
        · cases h
      have hNO : Hid (u2 ≠ 0 → d1 = ⟨#[]⟩ ∧ d2 = ⟨#[]⟩ ∧ d3 = u2) := by
        intro h
        rw [hu2] at h ⊢
        unfold res at h ⊢
        rw [HD1.out, HD2.out, HD3.out, divS_yes HG.out.hs HG.out.ht HTN.out]
        split at h
        · exact absurd rfl h
        · rename_i hl
          rw [if_neg hl, if_neg hl]
          exact ⟨rfl, rfl, rfl⟩
      have hLQ : Hid (Lim 400 (num s.data.toList / num t.data.toList).natAbs) := by
        have h := Int.natAbs_ediv_le_natAbs (num s.data.toList) (num t.data.toList)
        exact (HG.out.la.le (by rw [HG.out.ha]; exact h)).mono (by omega)
      have hRL : Hid ((num s.data.toList % num t.data.toList).natAbs < limit ∧ 0 ≤ num s.data.toList % num t.data.toList) := by
        have h1 := Int.emod_nonneg (num s.data.toList) HTN.out
        have h2 := Int.emod_lt (num s.data.toList) HTN.out
        have h3 := num_lt HG.out.ht
        exact ⟨by omega, h1⟩
      have hQT0 : Hid (∀ (m : Nat) (r : Value) (W : World), sv (p != q) m = num s.data.toList / num t.data.toList → Num W r m → Below w.heap.size w W → Calls Tryz.prog 79 #[.agg #[.bool (p != q), r]] W fun e w' => e = .returned (.tuple #[.string u1, .int .i64 u2]) ∧ Below W.heap.size W w') := by
        intro m r W h hr hB
        rw [hu1, hu2]
        exact text_res hr h hLQ.out (HT.out.below hB)
      have hRT0 : Hid (∀ (m : Nat) (r : Value) (W : World), (m : Int) = num s.data.toList % num t.data.toList → Num W r m → Below w.heap.size w W → Calls Tryz.prog 79 #[.agg #[.bool false, r]] W fun e w' => e = .returned (.tuple #[.string v1, .int .i64 0]) ∧ Below W.heap.size W w') := by
        intro m r W h hr hB
        have h2 := text_res (neg := false) (n := num s.data.toList % num t.data.toList) hr (by rw [← h]; rfl) ((lim_of hRL.out.1).mono (by omega)) (HT.out.below hB)
        rw [res_ok hRL.out.1] at h2
        rw [hv1]
        exact h2
      have HY2 := Lib.hid (HY.out.below (Nat.le_refl _) hb2)
      clear hu1 hu2 hv1 HD1 HD2 HD3 HOV S1 hb2 hLQ hRL HY
      by_cases hc : p = true ∧ a % b ≠ 0
      · obtain ⟨hp, hR⟩ := hc
        subst hp
        have hml := Nat.mod_lt a (Nat.pos_of_ne_zero HB0.out)
        have hlr1 : 0 < lr := Nat.pos_of_ne_zero (fun e => hR (hlr.1 e))
        have hQT : Hid (∀ (r : Value) (W : World), Num W r (a / b + 1) → Below w.heap.size w W → Calls Tryz.prog 79 #[.agg #[.bool (true != q), r]] W fun e w' => e = .returned (.tuple #[.string u1, .int .i64 u2]) ∧ Below W.heap.size W w') := fun r W h hB => hQT0.out _ r W (HSG.out.2 ⟨rfl, hR⟩).1 h hB
        have hRT : Hid (∀ (r : Value) (W : World), Num W r (b - a % b) → Below w.heap.size w W → Calls Tryz.prog 79 #[.agg #[.bool false, r]] W fun e w' => e = .returned (.tuple #[.string v1, .int .i64 0]) ∧ Below W.heap.size W w') := fun r W h hB => hRT0.out _ r W (HSG.out.2 ⟨rfl, hR⟩).2 h hB
        have hFq : Hid (Fits (a / b)) := ((HG.out.la.le (Nat.div_le_self a b)).fits (by omega))
        have hF1 : Hid (Fits 1) := (Lim.iff.2 (by show 1 < 10000 ^ 1; omega) : Lim 1 1).fits (by omega)
        have hFb : Hid (Fits b) := HG.out.lb.fits (by omega)
        have hRb : Hid (a % b ≤ b) := Nat.le_of_lt hml
        have HQV := Lib.hid hq
        have HRV := Lib.hid hr
        have c00 := S4.c00
        have mixed : Tryz.prog.follows .mixedOrders = true := by kernel_rfl
        clear hR hml hQT0 hRT0 HSG hq hr hlr HG HB HB0 HTN HT
        go_wp2
        have D0 := S4.next (W' := w2.drew) ⟨rfl, rfl, rfl, Nat.le_refl _, fun _ _ => rfl⟩
        have HBd := Lib.hid (HBq.out.trans (⟨rfl, rfl, rfl, Nat.le_refl _, fun _ _ => rfl⟩ : Below w.heap.size w2 w2.drew))
        have HQd := Lib.hid (HQV.out.below (W' := w2.drew) (Nat.le_refl _) ⟨rfl, rfl, rfl, Nat.le_refl _, fun _ _ => rfl⟩)
        have HRd := Lib.hid (HRV.out.below (W' := w2.drew) (Nat.le_refl _) ⟨rfl, rfl, rfl, Nat.le_refl _, fun _ _ => rfl⟩)
        have HYd := Lib.hid (HY2.out.below (W' := w2.drew) (Nat.le_refl _) ⟨rfl, rfl, rfl, Nat.le_refl _, fun _ _ => rfl⟩)
        clear HQV HRV HY2 HBq S4 c00 c01 c10 c11
        go_region_held3 (fun w' => w'.cell? ⟨w1.heap.size, 0, none⟩ = some (.bool true) ∧ w'.cell? ⟨w1.heap.size, 1, none⟩ = some (.slice ax lx cx) ∧ w'.cell? ⟨w1.heap.size + 1, 0, none⟩ = some (.bool q) ∧ w'.cell? ⟨w1.heap.size + 1, 1, none⟩ = some (.slice ay ly cy))
          (first | exact D0.all | exact D1.all | exact D2.all | exact D3.all)
          (first
            | (go_at_call 76; refine (plus_any _ _ _ _ _ HQ1.out ho hFq.out hF1.out).mono ?_; rintro e x2 ⟨q', rfl, hq', _, hbp⟩; obtain ⟨aq', lq', cq', rfl⟩ := hq'.shape; have D2 := D1.next hbp; have HB2 := Lib.hid (HB1.out.trans (hbp.mono HB1.out.size)); have HR2 := Lib.hid (HR1.out.below (Nat.le_refl _) hbp); have HY3 := Lib.hid (HY1.out.below (Nat.le_refl _) hbp); clear hbp)
            | (go_at_call 78; refine (minus_any _ _ _ _ _ HY3.out HR2.out hFb.out hRb.out).mono ?_; rintro e x3 ⟨r', rfl, hr', _, hbm⟩; obtain ⟨ar', lr', cr', rfl⟩ := hr'.shape; have S4 := D2.next hbm; have D3 := S4; have HBq := Lib.hid (HB2.out.trans (hbm.mono HB2.out.size)); have hqn := Lib.hid (hq'.below (Nat.le_refl _) hbm); have hrn := hr'; clear hbm)
            | (go_at_call 77; refine (one_any _).mono ?_; rintro e x1 ⟨o, rfl, ho, _, hbo⟩; obtain ⟨ao, lo, co, rfl⟩ := ho.shape; have D1 := D0.next hbo; have HB1 := Lib.hid (HBd.out.trans (hbo.mono HBd.out.size)); have HQ1 := Lib.hid (HQd.out.below (Nat.le_refl _) hbo); have HR1 := Lib.hid (HRd.out.below (Nat.le_refl _) hbo); have HY1 := Lib.hid (HYd.out.below (Nat.le_refl _) hbo); clear hbo))
        clear D0 D1 D2 D3 HBd HB1 HB2 HQd HQ1 HRd HR1 HR2 HYd HY1 HY3 ho hq' hr' hFq hF1 hFb hRb
        cases q
        all_goals
          have c00 := S4.c00; have c01 := S4.c01; have c10 := S4.c10; have c11 := S4.c11
          -- the quotient's text, then the remainder's
          go_wp2_with fail
          refine (hQT.out _ _ hqn.out HBq.out).mono ?_
          rintro e w5 ⟨rfl, hb5⟩
          have HB5 := Lib.hid (HBq.out.trans (hb5.mono HBq.out.size))
          have hrn5 := hrn.below (Nat.le_refl _) hb5
          have S5 := S4.next hb5
          clear hb5 hqn
          by_cases hu : u2 = 0
          · go_wp2_with fail
            refine (hRT.out _ _ hrn5 HB5.out).mono ?_
            rintro e w6 ⟨rfl, hb6⟩
            go_wp2
            go_ret3
            obtain ⟨g1, g2, g3⟩ := hOK.out hu
            exact ⟨by rw [g1, g2, g3]; rfl, HB5.out.trans (hb6.mono HB5.out.size)⟩
          · have hu2 : (u2 != 0) = true := by simpa using hu
            obtain ⟨g1, g2, g3⟩ := hNO.out hu
            clear hu
            go_wp2
            go_ret3
            exact ⟨by rw [g1, g2, g3]; rfl, HB5.out⟩
      · have hc' : p = false ∨ a % b = 0 := by
          cases p with
          | false => exact .inl rfl
          | true => exact .inr (Classical.byContradiction fun h => hc ⟨rfl, h⟩)
        have hqn := Lib.hid hq
        have hrn := hr
        have hQT : Hid (∀ (r : Value) (W : World), Num W r (a / b) → Below w.heap.size w W → Calls Tryz.prog 79 #[.agg #[.bool (p != q), r]] W fun e w' => e = .returned (.tuple #[.string u1, .int .i64 u2]) ∧ Below W.heap.size W w') := fun r W h hB => hQT0.out _ r W (HSG.out.1 hc').1 h hB
        have hRT : Hid (∀ (r : Value) (W : World), Num W r (a % b) → Below w.heap.size w W → Calls Tryz.prog 79 #[.agg #[.bool false, r]] W fun e w' => e = .returned (.tuple #[.string v1, .int .i64 0]) ∧ Below W.heap.size W w') := fun r W h hB => hRT0.out _ r W (HSG.out.1 hc').2 h hB
        have hlr0 : p = false ∨ lr = 0 := hc'.imp id hlr.2
        clear hc hc' hQT0 hRT0 HSG hq hr hlr HG HB HB0 HY2 HTN HT
        cases p <;> cases q
        all_goals
          have c00 := S4.c00; have c01 := S4.c01; have c10 := S4.c10; have c11 := S4.c11
          first
            | (have hlr1 : lr = 0 := by rcases hlr0 with h | h
                                        · cases h
                                        · exact h
               subst hlr1)
            | skip
          clear hlr0
          -- the quotient's text, then the remainder's
          go_wp2_with fail
          refine (hQT.out _ _ hqn.out HBq.out).mono ?_
          rintro e w5 ⟨rfl, hb5⟩
          have HB5 := Lib.hid (HBq.out.trans (hb5.mono HBq.out.size))
          have hrn5 := hrn.below (Nat.le_refl _) hb5
          have S5 := S4.next hb5
          clear hb5 hqn
          by_cases hu : u2 = 0
          · go_wp2_with fail
            refine (hRT.out _ _ hrn5 HB5.out).mono ?_
            rintro e w6 ⟨rfl, hb6⟩
            go_wp2
            go_ret3
            obtain ⟨g1, g2, g3⟩ := hOK.out hu
            exact ⟨by rw [g1, g2, g3]; rfl, HB5.out.trans (hb6.mono HB5.out.size)⟩
          · have hu2 : (u2 != 0) = true := by simpa using hu
            obtain ⟨g1, g2, g3⟩ := hNO.out hu
            clear hu
            go_wp2
            go_ret3
            exact ⟨by rw [g1, g2, g3]; rfl, HB5.out⟩
  · have g1 : d1 = ⟨#[]⟩ := by rw [HD1.out, divS_no hno.out]
    have g2 : d2 = ⟨#[]⟩ := by rw [HD2.out, divS_no hno.out]
    have g3 : d3 = 30 := by rw [HD3.out, divS_no hno.out]
    go_wp2
    go_ret3
    exact ⟨by rw [g1, g2, g3]; rfl, hb1.trans (((Below.refl _ w1).alloc (Nat.le_refl _) _).alloc (by simp) _ |>.mono hb1.size)⟩

end Go.Proofs.Tryz

namespace Go.Proofs.Tryz
open Go.RowKit Go.Shelf Go.Proofs.Dt

open Classical in
/-- The number of a slice value. -/
noncomputable def numOf (W : World) (v : Value) : Nat := if h : ∃ n, Num W v n then h.choose else 0
theorem Num.uniq {W : World} {v : Value} {m n : Nat} (h : Num W v m) (k : Num W v n) : m = n := by
  obtain ⟨xs, ix, rx⟩ := h
  obtain ⟨ys, iy, ry⟩ := k
  have := ix.inj iy
  subst this
  have h1 := rx.val
  rw [ry.val] at h1
  omega
theorem numOf_eq {W : World} {v : Value} {n : Nat} (h : Num W v n) : numOf W v = n := by
  unfold numOf
  have he : ∃ n, Num W v n := ⟨n, h⟩
  rw [dif_pos he]
  exact he.choose_spec.uniq h

set_option maxHeartbeats 4000000 in
set_option maxRecDepth 100000 in
theorem gcd_any (s t : ByteArray) (w : World) (ht : Tab w) : Calls Tryz.prog 59 #[.string s, .string t] w (OpPost w (gcdS s.data.toList t.data.toList)) := by
  have HT := Lib.hid ht
  clear ht
  obtain ⟨q1, hq1⟩ : ∃ q1 : ByteArray, q1 = ⟨(gcdS s.data.toList t.data.toList).1.toArray⟩ := ⟨_, rfl⟩
  obtain ⟨q2, hq2⟩ : ∃ q2 : Int, q2 = (gcdS s.data.toList t.data.toList).2 := ⟨_, rfl⟩
  suffices h : Calls Tryz.prog 59 #[.string s, .string t] w fun e w' => e = .returned (.tuple #[.string q1, .int .i64 q2]) ∧ Below w.heap.size w w' by
    refine h.mono ?_
    rintro e w' ⟨rfl, hb⟩
    exact ⟨by rw [hq1, hq2]; rfl, hb⟩
  have HQ1 := Lib.hid hq1
  have HQ2 := Lib.hid hq2
  clear hq1 hq2
  go_enter Tryz.func59, Tryz.ntmps59
  go_wp2_with fail
  refine (both_gen s t w).mono ?_
  rintro e w1 (⟨p, q, a, b, ax, lx, cx, ay, ly, cy, rfl, nx, ny, HG, hb1⟩ | ⟨rfl, hno, hb1⟩)
  · have S1 := Two.start w1 (.bool p) (.slice ax lx cx) (.bool q) (.slice ay ly cy)
    have hTx : Hid (∀ (r : Value) (W : World), Num W r (Nat.gcd a b) → Below w.heap.size w W → Calls Tryz.prog 79 #[.agg #[.bool false, r]] W fun e w' => e = .returned (.tuple #[.string q1, .int .i64 q2]) ∧ Below W.heap.size W w') := by
      intro r W hr hB
      have hg : (Int.gcd (num s.data.toList) (num t.data.toList) : Nat) = Nat.gcd a b := by rw [Int.gcd, ← HG.out.ha, ← HG.out.hb]
      have hlt := gcd_le_limit (num_lt HG.out.hs) (num_lt HG.out.ht)
      rw [HQ1.out, HQ2.out, show gcdS s.data.toList t.data.toList = res (Int.gcd (num s.data.toList) (num t.data.toList) : Int) from bin_yes HG.out.hs HG.out.ht]
      exact text_res hr (by rw [hg]; rfl) ((lim_of (by simpa using hlt)).mono (by omega)) (HT.out.below hB)
    have hB := hb1.trans (S1.below.mono hb1.size)
    have HX := Lib.hid (nx.below (Nat.le_refl _) S1.below)
    have HY := Lib.hid (ny.below (Nat.le_refl _) S1.below)
    have HB := Lib.hid hB
    clear nx ny hb1 hB
    generalize hW1 : ((w1.alloc (.cells #[.bool p, .slice ax lx cx] 91)).alloc (.cells #[.bool q, .slice ay ly cy] 91)) = W1 at S1 HB HX HY
    have mixed : Tryz.prog.follows .mixedOrders = true := by kernel_rfl
    have D0 := S1.next (W' := W1.drew) ⟨rfl, rfl, rfl, Nat.le_refl _, fun _ _ => rfl⟩
    have c01 := D0.c01; have c11 := D0.c11
    go_wp2_with fail
    clear hW1
    go_region_held3 (fun w' => w'.cell? ⟨w1.heap.size, 0, none⟩ = some (.bool p) ∧ w'.cell? ⟨w1.heap.size, 1, none⟩ = some (.slice ax lx cx) ∧ w'.cell? ⟨w1.heap.size + 1, 0, none⟩ = some (.bool q) ∧ w'.cell? ⟨w1.heap.size + 1, 1, none⟩ = some (.slice ay ly cy))
      (first | exact D0.all)
      (first | fail)
    have hst : Hid (Num W1.drew (.slice ax lx cx) a ∧ Num W1.drew (.slice ay ly cy) b ∧ Nat.gcd a b = Nat.gcd a b ∧ Lim 50 a ∧ Lim 50 b ∧ Below w.heap.size w W1.drew) :=
      ⟨HX.out.below (Nat.le_refl _) ⟨rfl, rfl, rfl, Nat.le_refl _, fun _ _ => rfl⟩, HY.out.below (Nat.le_refl _) ⟨rfl, rfl, rfl, Nat.le_refl _, fun _ _ => rfl⟩, rfl, HG.out.la, HG.out.lb, HB.out.trans ⟨rfl, rfl, rfl, Nat.le_refl _, fun _ _ => rfl⟩⟩
    clear c01 c11 D0 S1 HX HY HB HT
    generalize W1.drew = W2 at hst ⊢
    go_wp2_with fail
    go_loopw [9, 10] (fun k l wr => ∃ (m1 m2 : Nat) (ak : Option Addr) (lk ck : Nat) (al : Option Addr) (ll cl : Nat), k = .slice ak lk ck ∧ l = .slice al ll cl ∧ Hid (Num wr (.slice ak lk ck) m1 ∧ Num wr (.slice al ll cl) m2 ∧ Nat.gcd m1 m2 = Nat.gcd a b ∧ Lim 50 m1 ∧ Lim 50 m2 ∧ Below w.heap.size w wr)) (fun _ l wr => numOf wr l)
    case atStart => exact ⟨a, b, _, _, _, _, _, _, rfl, rfl, ⟨hst.out.1, hst.out.2.1, rfl, hst.out.2.2.2⟩⟩
    case round =>
      obtain ⟨m1, m2, ak, lk, ck, al, ll, cl, rfl, rfl, HR⟩ := hrel
      have hl0 := HR.out.2.1.len0
      by_cases hm0 : m2 = 0
      · obtain rfl : ll = 0 := hl0.2 hm0
        have hfin : Hid (Num wr (.slice ak lk ck) (Nat.gcd a b)) := by
          show Num _ _ _
          rw [← HR.out.2.2.1, hm0, Nat.gcd_zero_right]; exact HR.out.1
        have HBr := Lib.hid HR.out.2.2.2.2.2
        clear hl0 hm0 HR hst
        go_wp2_with fail
        refine (hTx.out _ _ hfin.out HBr.out).mono ?_
        rintro e w3 ⟨rfl, hb3⟩
        go_wp2
        go_ret2
        exact ⟨rfl, HBr.out.trans (hb3.mono HBr.out.size)⟩
      · have hll : 0 < ll := Nat.pos_of_ne_zero (fun e => hm0 (hl0.1 e))
        have HM := Lib.hid hm0
        clear hl0 hm0 hst
        go_wp2_with fail
        refine (over_any _ _ m1 m2 _ HR.out.1 HR.out.2.1 (HR.out.2.2.2.1.mono (by omega)) (HR.out.2.2.2.2.1.mono (by omega)) (Nat.pos_of_ne_zero HM.out)).mono ?_
        rintro e w3 ⟨qv, rv, rfl, hq, hr, hb3⟩
        obtain ⟨aq, lq, cq, rfl⟩ := hq.shape
        obtain ⟨ar, lr, cr, rfl⟩ := hr.shape
        have HN : Hid (Num w3 (.slice al ll cl) m2 ∧ Num w3 (.slice ar lr cr) (m1 % m2) ∧ Nat.gcd m2 (m1 % m2) = Nat.gcd a b ∧ Lim 50 m2 ∧ Lim 50 (m1 % m2) ∧ Below w.heap.size w w3) :=
          ⟨HR.out.2.1.below (Nat.le_refl _) hb3, hr, by rw [← HR.out.2.2.1, Nat.gcd_comm m2, ← Nat.gcd_rec, Nat.gcd_comm], HR.out.2.2.2.2.1, HR.out.2.2.2.1.le (Nat.mod_le _ _), HR.out.2.2.2.2.2.trans (hb3.mono HR.out.2.2.2.2.2.size)⟩
        have h1 := numOf_eq HR.out.2.1
        have h2 := numOf_eq hr
        have h3 := Nat.mod_lt m1 (Nat.pos_of_ne_zero HM.out)
        have HLT : Hid (numOf w3 (.slice ar lr cr) < numOf wr (.slice al ll cl)) := by show _ < _; omega
        clear hq hr h1 h2 h3
        go_wp2
        go_roundw
        case rel => exact ⟨m2, m1 % m2, _, _, _, _, _, _, rfl, rfl, HN⟩
        case measure => exact HLT.out
  · go_wp2
    go_ret2
    exact ⟨by rw [HQ1.out, HQ2.out]; unfold gcdS; rw [bin_no hno.out]; rfl, hb1.trans (((Below.refl _ w1).alloc (Nat.le_refl _) _).alloc (by simp) _ |>.mono hb1.size)⟩

end Go.Proofs.Tryz
