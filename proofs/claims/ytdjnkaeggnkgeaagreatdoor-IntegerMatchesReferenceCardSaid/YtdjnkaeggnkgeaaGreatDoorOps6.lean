/- Gcd: what it returns. -/
import Derived.Test.YtdjnkaeggnkgeaaGreatDoorOps5
namespace Go.Proofs.Tryz
open Go.RowKit Go.Shelf Go.Proofs.Dt

open Classical in
/-- The number of a slice value. -/
noncomputable def numOf (W : World) (v : Value) : Nat := if h : ∃ n, Num W v n then h.choose else 0
theorem Num.uniq {W : World} {v : Value} {m n : Nat} (h : Num W v m) (k : Num W v n) : m = n := by
  obtain ⟨xs, ix, rx⟩ := h
  obtain ⟨ys, iy, ry⟩ := k
  have := ix.inj iy
  subst this
  have h1 := rx.val
  rw [ry.val] at h1
  omega
theorem numOf_eq {W : World} {v : Value} {n : Nat} (h : Num W v n) : numOf W v = n := by
  unfold numOf
  have he : ∃ n, Num W v n := ⟨n, h⟩
  rw [dif_pos he]
  exact he.choose_spec.uniq h

set_option maxHeartbeats 4000000 in
set_option maxRecDepth 100000 in
theorem gcd_any (s t : ByteArray) (w : World) (ht : Tab w) : Calls Tryz.prog 20 #[.string s, .string t] w (OpPost w (gcdS s.data.toList t.data.toList)) := by
  have HT := Lib.hid ht
  clear ht
  obtain ⟨q1, hq1⟩ : ∃ q1 : ByteArray, q1 = ⟨(gcdS s.data.toList t.data.toList).1.toArray⟩ := ⟨_, rfl⟩
  obtain ⟨q2, hq2⟩ : ∃ q2 : Int, q2 = (gcdS s.data.toList t.data.toList).2 := ⟨_, rfl⟩
  suffices h : Calls Tryz.prog 20 #[.string s, .string t] w fun e w' => e = .returned (.tuple #[.string q1, .int .i64 q2]) ∧ Below w.heap.size w w' by
    refine h.mono ?_
    rintro e w' ⟨rfl, hb⟩
    exact ⟨by rw [hq1, hq2]; rfl, hb⟩
  have HQ1 := Lib.hid hq1
  have HQ2 := Lib.hid hq2
  clear hq1 hq2
  go_enter Tryz.func20, Tryz.ntmps20
  go_wp2_with fail
  refine (both_gen s t w).mono ?_
  rintro e w1 (⟨p, q, a, b, ax, lx, cx, ay, ly, cy, rfl, nx, ny, HG, hb1⟩ | ⟨rfl, hno, hb1⟩)
  · have S1 := Two.start w1 (.bool p) (.slice ax lx cx) (.bool q) (.slice ay ly cy)
    have hTx : Hid (∀ (r : Value) (W : World), Num W r (Nat.gcd a b) → Below w.heap.size w W → Calls Tryz.prog 40 #[.agg #[.bool false, r]] W fun e w' => e = .returned (.tuple #[.string q1, .int .i64 q2]) ∧ Below W.heap.size W w') := by
      intro r W hr hB
      have hg : (Int.gcd (num s.data.toList) (num t.data.toList) : Nat) = Nat.gcd a b := by rw [Int.gcd, ← HG.out.ha, ← HG.out.hb]
      have hlt := gcd_le_limit (num_lt HG.out.hs) (num_lt HG.out.ht)
      rw [HQ1.out, HQ2.out, show gcdS s.data.toList t.data.toList = res (Int.gcd (num s.data.toList) (num t.data.toList) : Int) from bin_yes HG.out.hs HG.out.ht]
      exact text_res hr (by rw [hg]; rfl) ((lim_of (by simpa using hlt)).mono (by omega)) (HT.out.below hB)
    have hB := hb1.trans (S1.below.mono hb1.size)
    have HX := Lib.hid (nx.below (Nat.le_refl _) S1.below)
    have HY := Lib.hid (ny.below (Nat.le_refl _) S1.below)
    have HB := Lib.hid hB
    clear nx ny hb1 hB
    generalize hW1 : ((w1.alloc (.cells #[.bool p, .slice ax lx cx] 50)).alloc (.cells #[.bool q, .slice ay ly cy] 50)) = W1 at S1 HB HX HY
    have mixed : Tryz.prog.follows .mixedOrders = true := by kernel_rfl
    have D0 := S1.next (W' := W1.drew) ⟨rfl, rfl, rfl, Nat.le_refl _, fun _ _ => rfl⟩
    have c01 := D0.c01; have c11 := D0.c11
    go_wp2_with fail
    clear hW1
    go_region_held3 (fun w' => w'.cell? ⟨w1.heap.size, 0, none⟩ = some (.bool p) ∧ w'.cell? ⟨w1.heap.size, 1, none⟩ = some (.slice ax lx cx) ∧ w'.cell? ⟨w1.heap.size + 1, 0, none⟩ = some (.bool q) ∧ w'.cell? ⟨w1.heap.size + 1, 1, none⟩ = some (.slice ay ly cy))
      (first | exact D0.all)
      (first | fail)
    have hst : Hid (Num W1.drew (.slice ax lx cx) a ∧ Num W1.drew (.slice ay ly cy) b ∧ Nat.gcd a b = Nat.gcd a b ∧ Lim 50 a ∧ Lim 50 b ∧ Below w.heap.size w W1.drew) :=
      ⟨HX.out.below (Nat.le_refl _) ⟨rfl, rfl, rfl, Nat.le_refl _, fun _ _ => rfl⟩, HY.out.below (Nat.le_refl _) ⟨rfl, rfl, rfl, Nat.le_refl _, fun _ _ => rfl⟩, rfl, HG.out.la, HG.out.lb, HB.out.trans ⟨rfl, rfl, rfl, Nat.le_refl _, fun _ _ => rfl⟩⟩
    clear c01 c11 D0 S1 HX HY HB HT
    generalize W1.drew = W2 at hst ⊢
    go_wp2_with fail
    go_loopw [9, 10] (fun k l wr => ∃ (m1 m2 : Nat) (ak : Option Addr) (lk ck : Nat) (al : Option Addr) (ll cl : Nat), k = .slice ak lk ck ∧ l = .slice al ll cl ∧ Hid (Num wr (.slice ak lk ck) m1 ∧ Num wr (.slice al ll cl) m2 ∧ Nat.gcd m1 m2 = Nat.gcd a b ∧ Lim 50 m1 ∧ Lim 50 m2 ∧ Below w.heap.size w wr)) (fun _ l wr => numOf wr l)
    case atStart => exact ⟨a, b, _, _, _, _, _, _, rfl, rfl, ⟨hst.out.1, hst.out.2.1, rfl, hst.out.2.2.2⟩⟩
    case round =>
      obtain ⟨m1, m2, ak, lk, ck, al, ll, cl, rfl, rfl, HR⟩ := hrel
      have hl0 := HR.out.2.1.len0
      by_cases hm0 : m2 = 0
      · obtain rfl : ll = 0 := hl0.2 hm0
        have hfin : Hid (Num wr (.slice ak lk ck) (Nat.gcd a b)) := by
          show Num _ _ _
          rw [← HR.out.2.2.1, hm0, Nat.gcd_zero_right]; exact HR.out.1
        have HBr := Lib.hid HR.out.2.2.2.2.2
        clear hl0 hm0 HR hst
        go_wp2_with fail
        refine (hTx.out _ _ hfin.out HBr.out).mono ?_
        rintro e w3 ⟨rfl, hb3⟩
        go_wp2
        go_ret2
        exact ⟨rfl, HBr.out.trans (hb3.mono HBr.out.size)⟩
      · have hll : 0 < ll := Nat.pos_of_ne_zero (fun e => hm0 (hl0.1 e))
        have HM := Lib.hid hm0
        clear hl0 hm0 hst
        go_wp2_with fail
        refine (over_any _ _ m1 m2 _ HR.out.1 HR.out.2.1 (HR.out.2.2.2.1.mono (by omega)) (HR.out.2.2.2.2.1.mono (by omega)) (Nat.pos_of_ne_zero HM.out)).mono ?_
        rintro e w3 ⟨qv, rv, rfl, hq, hr, hb3⟩
        obtain ⟨aq, lq, cq, rfl⟩ := hq.shape
        obtain ⟨ar, lr, cr, rfl⟩ := hr.shape
        have HN : Hid (Num w3 (.slice al ll cl) m2 ∧ Num w3 (.slice ar lr cr) (m1 % m2) ∧ Nat.gcd m2 (m1 % m2) = Nat.gcd a b ∧ Lim 50 m2 ∧ Lim 50 (m1 % m2) ∧ Below w.heap.size w w3) :=
          ⟨HR.out.2.1.below (Nat.le_refl _) hb3, hr, by rw [← HR.out.2.2.1, Nat.gcd_comm m2, ← Nat.gcd_rec, Nat.gcd_comm], HR.out.2.2.2.2.1, HR.out.2.2.2.1.le (Nat.mod_le _ _), HR.out.2.2.2.2.2.trans (hb3.mono HR.out.2.2.2.2.2.size)⟩
        have h1 := numOf_eq HR.out.2.1
        have h2 := numOf_eq hr
        have h3 := Nat.mod_lt m1 (Nat.pos_of_ne_zero HM.out)
        have HLT : Hid (numOf w3 (.slice ar lr cr) < numOf wr (.slice al ll cl)) := by show _ < _; omega
        clear hq hr h1 h2 h3
        go_wp2
        go_roundw
        case rel => exact ⟨m2, m1 % m2, _, _, _, _, _, _, rfl, rfl, HN⟩
        case measure => exact HLT.out
  · go_wp2
    go_ret2
    exact ⟨by rw [HQ1.out, HQ2.out]; unfold gcdS; rw [bin_no hno.out]; rfl, hb1.trans (((Below.refl _ w1).alloc (Nat.le_refl _) _).alloc (by simp) _ |>.mono hb1.size)⟩

end Go.Proofs.Tryz
