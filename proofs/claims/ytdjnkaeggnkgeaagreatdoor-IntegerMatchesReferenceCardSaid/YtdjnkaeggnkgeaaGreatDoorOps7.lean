/- Root: what it returns. -/
import Derived.Test.YtdjnkaeggnkgeaaGreatDoorRt
import Derived.Test.YtdjnkaeggnkgeaaGreatDoorRefP
namespace Go.Proofs.Tryz
open Go.RowKit Go.Shelf Go.Proofs.Dt

set_option maxHeartbeats 4000000 in
set_option maxRecDepth 100000 in
theorem root_any (s : ByteArray) (w : World) (ht : Tab w) : Calls Tryz.prog 21 #[.string s] w (OpPost w (rootS s.data.toList)) := by
  have HT := Lib.hid ht
  clear ht
  obtain ⟨q1, hq1⟩ : ∃ q1 : ByteArray, q1 = ⟨(rootS s.data.toList).1.toArray⟩ := ⟨_, rfl⟩
  obtain ⟨q2, hq2⟩ : ∃ q2 : Int, q2 = (rootS s.data.toList).2 := ⟨_, rfl⟩
  suffices h : Calls Tryz.prog 21 #[.string s] w fun e w' => e = .returned (.tuple #[.string q1, .int .i64 q2]) ∧ Below w.heap.size w w' by
    refine h.mono ?_
    rintro e w' ⟨rfl, hb⟩
    exact ⟨by rw [hq1, hq2]; rfl, hb⟩
  have HQ1 := Lib.hid hq1
  have HQ2 := Lib.hid hq2
  clear hq1 hq2
  go_enter Tryz.func21, Tryz.ntmps21
  go_wp2_with fail
  refine (both_gen s ⟨#[48]⟩ w).mono ?_
  rintro e w1 (⟨p, q, a, b, ax, lx, cx, ay, ly, cy, rfl, nx, ny, HG, hb1⟩ | ⟨rfl, hno, hb1⟩)
  · have S1 := Two.start w1 (.bool p) (.slice ax lx cx) (.bool q) (.slice ay ly cy)
    have HB := Lib.hid (hb1.trans (S1.below.mono hb1.size))
    have HX := Lib.hid (nx.below (Nat.le_refl _) S1.below)
    clear nx ny hb1
    cases p with
    | true =>
      clear S1
      have hn : Hid (rootS s.data.toList = ([], 30)) := by
        have h : num s.data.toList < 0 := of_decide_eq_true HG.out.hp.symm
        show _ = _
        unfold rootS
        rw [decide_eq_false (show ¬ 0 ≤ num s.data.toList by omega), Bool.and_false]; rfl
      go_wp2
      go_ret2
      exact ⟨by rw [HQ1.out, HQ2.out, hn.out]; rfl, HB.out⟩
    | false =>
      have ha : (a : Int) = num s.data.toList := by have := HG.out.hx; simpa [sv] using this
      have hlt : rt a < limit := by
        have h1 := rt_le a
        have h2 := num_lt HG.out.hs
        omega
      have HS : Hid (rootS s.data.toList = (str (rt a : Int), 0)) := by
        show _ = _
        unfold rootS
        rw [HG.out.hs, ← ha, decide_eq_true (show (0 : Int) ≤ (a : Int) by omega)]; rfl
      have hTx : Hid (∀ (r : Value) (W : World), Num W r (rt a) → Below w.heap.size w W → Calls Tryz.prog 40 #[.agg #[.bool false, r]] W fun e w' => e = .returned (.tuple #[.string q1, .int .i64 q2]) ∧ Below W.heap.size W w') := by
        intro r W hr hB
        rw [HQ1.out, HQ2.out, HS.out, ← res_ok (n := (rt a : Int)) (by simpa using hlt)]
        exact text_res hr (by rfl) ((lim_of (by simpa using hlt)).mono (by omega)) (HT.out.below hB)
      have hlx : lx ≤ 50 := num_len_le HX.out HG.out.la
      have hax : Hid (rt a ≤ 10000 ^ ((lx + 1) / 2)) := rt_start (num_lt_len HX.out)
      have hge0 : (0 : Int) ≤ (lx : Int) + 1 := by omega
      have hle1 : (lx : Int) + 1 ≤ 51 := by omega
      have hL : ((lx : Int) + 1) / 2 = (((lx + 1) / 2 : Nat) : Int) := by omega
      obtain ⟨k, hk⟩ : ∃ k, k = (lx + 1) / 2 := ⟨_, rfl⟩
      rw [← hk] at hL hax
      have hk51 : k ≤ 25 := by omega
      clear hk
      clear ha hlt
      have HSr := HS
      clear HS
      obtain ⟨i0, hi, hz0, hz1, hz2⟩ := info_parts info3
      generalize hW1 : ((w1.alloc (.cells #[.bool false, .slice ax lx cx] 50)).alloc (.cells #[.bool q, .slice ay ly cy] 50)) = W1 at HB HX S1
      have HS1 : Hid (W1.heap.size = w1.heap.size + 2) := by show _ = _; rw [← hW1]; simp
      have c00 := S1.c00; have c01 := S1.c01
      go_wp2_with (first
        | (at_make; go_must (refine wpList_make_full _ rfl _ _ 48 rfl W1.heap.size 3 i0 (.int .i64 0) 1 Tryz.underlying48 hi hz0 hz1 .i64 .i64 _ _ k rfl rfl hL hL (by rw [hz2]; omega) (by unfold maxLen; omega) (by exact Nat.le_refl _) ?_); intro w2 hown2 hgrow2; have hsz2 := hgrow2.size; have HO2 := Lib.hid hown2; have HG2 := Lib.hid hgrow2; clear hown2 hgrow2)
        | (at_builtin; go_must (refine wpList_append_own _ rfl _ _ 48 rfl W1.heap.size 3 i0 (.int .i64 0) 1 8 Tryz.underlying48 hi hz0 hz1 hz2 rfl (by decide) _ _ _ rfl (HO2.out.alloc _) ⟨w2.heap.size, 0, none⟩ 1 1 [.int .i64 1] rfl rfl ?_ ?_ ?_ ?_ ?_ ?_); rotate_right; intro v3 w3 hown3 hgrow3 _))
      · clear hW1
        have hN3 : Num w3 v3 (10000 ^ k) := num_power hown3
        obtain ⟨a3, l3, c3, rfl⟩ : ∃ a3 l3 c3, v3 = .slice a3 l3 c3 := by
          obtain ⟨xs, ix, _⟩ := hN3
          obtain ⟨a, c, e⟩ := ix.shape
          exact ⟨_, _, _, e⟩
        have hB3 : Below W1.heap.size W1 w3 := (((Below.refl _ W1).grown HG2.out (Nat.le_refl _) (fun j e => by cases e)).alloc hsz2 _).grown hgrow3 (by simp; omega) (fun j e => by cases e; exact Nat.le_refl _)
        have d00 : w3.cell? ⟨w1.heap.size, 0, none⟩ = some (.bool false) := (hB3.cell (p := ⟨w1.heap.size, 0, none⟩) (by have := HS1.out; show w1.heap.size < W1.heap.size; omega)).trans c00
        have d01 : w3.cell? ⟨w1.heap.size, 1, none⟩ = some (.slice ax lx cx) := (hB3.cell (p := ⟨w1.heap.size, 1, none⟩) (by have := HS1.out; show w1.heap.size < W1.heap.size; omega)).trans c01
        have HN3 : Hid (Num w3 (.slice a3 l3 c3) (10000 ^ k) ∧ Below W1.heap.size W1 w3 ∧ 0 < 10000 ^ k ∧ rt a ≤ 10000 ^ k ∧ Lim 51 (10000 ^ k)) :=
          ⟨hN3, hB3, Nat.pow_pos (by decide), hax.out, Lim.iff.2 (Nat.pow_lt_pow_right (by decide) (by omega))⟩
        clear hN3 hB3 hown3 hgrow3 HO2 HG2 hsz2 c00 c01 hax hL hk51 hge0 hle1
        have HXB : Hid (∀ W, Below W1.heap.size W1 W → Num W (.slice ax lx cx) a ∧ W.cell? ⟨w1.heap.size, 0, none⟩ = some (.bool false) ∧ W.cell? ⟨w1.heap.size, 1, none⟩ = some (.slice ax lx cx) ∧ Below w.heap.size w W) := by
          intro W hW
          have e0 := S1.c00; have e1 := S1.c01
          exact ⟨HX.out.below (Nat.le_refl _) hW, (hW.cell (p := ⟨w1.heap.size, 0, none⟩) (by have := HS1.out; show w1.heap.size < W1.heap.size; omega)).trans e0, (hW.cell (p := ⟨w1.heap.size, 1, none⟩) (by have := HS1.out; show w1.heap.size < W1.heap.size; omega)).trans e1, HB.out.trans (hW.mono HB.out.size)⟩
        have HLA : Hid (Lim 50 a) := HG.out.la
        have hl0 := HX.out.len0
        clear S1 HX HS1 HG HB
        go_loopw [7] (fun r wr => ∃ (m : Nat) (ar : Option Addr) (lr cr : Nat), r = .slice ar lr cr ∧ wr.cell? ⟨w1.heap.size, 0, none⟩ = some (.bool false) ∧ wr.cell? ⟨w1.heap.size, 1, none⟩ = some (.slice ax lx cx) ∧ Hid (Num wr (.slice ar lr cr) m ∧ Below W1.heap.size W1 wr ∧ 0 < m ∧ rt a ≤ m ∧ Lim 51 m)) (fun r wr => numOf wr r)
        case atStart => exact ⟨_, _, _, _, rfl, d00, d01, HN3⟩
        case round =>
          clear d00 d01 HN3
          obtain ⟨m, ar, lr, cr, rfl, d00, d01, HR⟩ := hrel
          by_cases ha0 : a = 0
          · obtain rfl : lx = 0 := hl0.2 ha0
            have HBr := Lib.hid (HXB.out _ HR.out.2.1).2.2.2
            have HE : Hid (q1 = ⟨#[48]⟩ ∧ q2 = 0) := by
              obtain ⟨h1, h2⟩ : rootS s.data.toList = (str (rt a : Int), 0) ∧ True := ⟨HSr.out, trivial⟩
              rw [ha0, rt_zero] at h1
              refine ⟨?_, ?_⟩
              · rw [HQ1.out, h1]; show (⟨(str 0).toArray⟩ : ByteArray) = _; rw [str_zero]
              · rw [HQ2.out, h1]
            clear hl0 ha0
            go_wp2
            go_ret2
            exact ⟨by rw [HE.out.1, HE.out.2]; rfl, HBr.out⟩
          · have hll : 0 < lx := Nat.pos_of_ne_zero (fun e => ha0 (hl0.1 e))
            have HA := Lib.hid ha0
            clear hl0 ha0
            go_wp2_with fail
            refine (over_any _ _ a m _ (HXB.out _ HR.out.2.1).1 HR.out.1 (HLA.out.mono (by omega)) (HR.out.2.2.2.2.mono (by omega)) HR.out.2.2.1).mono ?_
            rintro e w4 ⟨qv, rv, rfl, hq4, _, hb4⟩
            obtain ⟨aq, lq, cq, rfl⟩ := hq4.shape
            have HB4 : Hid (Below W1.heap.size W1 w4) := HR.out.2.1.trans (hb4.mono HR.out.2.1.size)
            have HN4 : Hid (Num w4 (.slice aq lq cq) (a / m) ∧ Num w4 (.slice ar lr cr) m) := ⟨hq4, HR.out.1.below (Nat.le_refl _) hb4⟩
            clear hq4 hb4
            have HLQ : Hid (Lim 50 (a / m)) := HLA.out.le (Nat.div_le_self _ _)
            go_wp2_with fail
            refine (plus_any _ _ m (a / m) _ HN4.out.2 HN4.out.1 (HR.out.2.2.2.2.fits (by omega)) (HLQ.out.fits (by omega))).mono ?_
            rintro e w5 ⟨sv5, rfl, hs5, _, hb5⟩
            obtain ⟨a5, l5, c5, rfl⟩ := hs5.shape
            have HB5 : Hid (Below W1.heap.size W1 w5) := HB4.out.trans (hb5.mono HB4.out.size)
            have HN5 : Hid (Num w5 (.slice a5 l5 c5) (m + a / m) ∧ Num w5 (.slice ar lr cr) m) := ⟨hs5, HN4.out.2.below (Nat.le_refl _) hb5⟩
            clear hs5 hb5
            go_wp2_with fail
            have h2c : (w5.alloc (.cells #[.int .i64 2] 3)).cell? ⟨w5.heap.size, 0, none⟩ = some (.int .i64 2) := by rw [World.cell?_alloc_at _ _ _ _ rfl]; rfl
            have hB6 : Below w5.heap.size w5 (w5.alloc (.cells #[.int .i64 2] 3)) := (Below.refl _ w5).alloc (Nat.le_refl _) _
            have HT6 : Hid (Num (w5.alloc (.cells #[.int .i64 2] 3)) (.slice (some ⟨w5.heap.size, 0, none⟩) 1 1) 2) := num_two (by simp) (Nat.le_refl _) h2c
            have HB6 : Hid (Below W1.heap.size W1 (w5.alloc (.cells #[.int .i64 2] 3))) := HB5.out.trans (hB6.mono HB5.out.size)
            have HN6 : Hid (Num (w5.alloc (.cells #[.int .i64 2] 3)) (.slice a5 l5 c5) (m + a / m) ∧ Num (w5.alloc (.cells #[.int .i64 2] 3)) (.slice ar lr cr) m) := ⟨HN5.out.1.below (Nat.le_refl _) hB6, HN5.out.2.below (Nat.le_refl _) hB6⟩
            have HLS : Hid (Lim 52 (m + a / m)) := HR.out.2.2.2.2.add (HLQ.out.mono (by omega))
            clear h2c hB6
            generalize w5.alloc (.cells #[.int .i64 2] 3) = w6 at HT6 HB6 HN6 ⊢
            refine (over_any _ _ (m + a / m) 2 _ HN6.out.1 HT6.out (HLS.out.mono (by omega)) (((Lim.iff (k := 1) (n := 2)).2 (by decide)).mono (by omega)) (by decide)).mono ?_
            rintro e w7 ⟨nv, rv7, rfl, hq7, _, hb7⟩
            obtain ⟨an, ln, cn, rfl⟩ := hq7.shape
            have HB7 : Hid (Below W1.heap.size W1 w7) := HB6.out.trans (hb7.mono HB6.out.size)
            have HN7 : Hid (Num w7 (.slice an ln cn) ((m + a / m) / 2) ∧ Num w7 (.slice ar lr cr) m) := ⟨hq7, HN6.out.2.below (Nat.le_refl _) hb7⟩
            clear hq7 hb7
            have HGE : Hid (rt a ≤ (m + a / m) / 2) := newton_ge (rt_spec a).1 HR.out.2.2.1
            have HST : Hid (m ≤ (m + a / m) / 2 → m = rt a) := fun h => newton_stop (rt_spec a) HR.out.2.2.1 HR.out.2.2.2.1 h
            have HPO : Hid (0 < rt a) := (rt_spec a).pos (Nat.pos_of_ne_zero HA.out)
            have HLN : Hid (Lim 52 ((m + a / m) / 2)) := HLS.out.le (Nat.div_le_self _ _)
            clear HLS HLQ HT6 HN6 HN5 HN4 HB4 HB5 HB6
            go_wp2_with fail
            revert HN7 HGE HST HLN
            generalize (m + a / m) / 2 = n
            intro HN7 HGE HST HLN
            refine (compare_any _ _ n m _ HN7.out.1 HN7.out.2 (HLN.out.fits (by omega))).mono ?_
            rintro e w8 ⟨rfl, hb8⟩
            have HB8 : Hid (Below W1.heap.size W1 w8) := HB7.out.trans (hb8.mono HB7.out.size)
            have HN8 : Hid (Num w8 (.slice an ln cn) n ∧ Num w8 (.slice ar lr cr) m) := ⟨HN7.out.1.below (Nat.le_refl _) hb8, HN7.out.2.below (Nat.le_refl _) hb8⟩
            clear hb8 HN7 HB7
            by_cases hst : m ≤ n
            · obtain ⟨c, hc⟩ : ∃ c, c = cmpI n m := ⟨_, rfl⟩
              have hc0 : 0 ≤ c := by rw [hc]; unfold cmpI; rw [if_neg (by omega)]; split <;> decide
              rw [← hc]
              have HE : Hid (m = rt a) := HST.out hst
              clear hc hst
              have HNR : Hid (Num w8 (.slice ar lr cr) (rt a)) := by show Num _ _ _; rw [← HE.out]; exact HN8.out.2
              have HBR : Hid (Below w.heap.size w w8) := (HXB.out _ HB8.out).2.2.2
              go_wp2_with fail
              refine (hTx.out _ _ HNR.out HBR.out).mono ?_
              rintro e w9 ⟨rfl, hb9⟩
              go_wp2
              go_ret2
              exact ⟨rfl, HBR.out.trans (hb9.mono HBR.out.size)⟩
            · obtain ⟨c, hc⟩ : ∃ c, c = cmpI n m := ⟨_, rfl⟩
              have hc0 : ¬ 0 ≤ c := by rw [hc]; unfold cmpI; rw [if_pos (by omega)]; decide
              rw [← hc]
              have HLT : Hid (n < m) := Nat.lt_of_not_le hst
              clear hc hst
              obtain ⟨e00, e01⟩ : w8.cell? ⟨w1.heap.size, 0, none⟩ = some (.bool false) ∧ w8.cell? ⟨w1.heap.size, 1, none⟩ = some (.slice ax lx cx) := ⟨(HXB.out _ HB8.out).2.1, (HXB.out _ HB8.out).2.2.1⟩
              have HREL : Hid (Num w8 (.slice an ln cn) n ∧ Below W1.heap.size W1 w8 ∧ 0 < n ∧ rt a ≤ n ∧ Lim 51 n) := ⟨HN8.out.1, HB8.out, Nat.lt_of_lt_of_le HPO.out HGE.out, HGE.out, HR.out.2.2.2.2.le (Nat.le_of_lt HLT.out)⟩
              have HME : Hid (numOf w8 (.slice an ln cn) < numOf wr (.slice ar lr cr)) := by
                show _ < _
                rw [numOf_eq HN8.out.1, numOf_eq HR.out.1]; exact HLT.out
              go_wp2
              go_roundw
              case rel => exact ⟨n, _, _, _, rfl, e00, e01, HREL⟩
              case measure => exact HME.out
      · exact cell_one_new _ _ _
      · simp [Value.oneCell']
      · unfold maxLen; omega
      · omega
      · simp; omega
  · have hv : Hid (valid s.data.toList = false) := by
      have h := hno.out
      rw [show valid (⟨#[48]⟩ : ByteArray).data.toList = true from valid_zero, Bool.and_true] at h
      exact h
    go_wp2
    go_ret2
    exact ⟨by rw [HQ1.out, HQ2.out]; unfold rootS; rw [hv.out]; rfl, hb1.trans (((Below.refl _ w1).alloc (Nat.le_refl _) _).alloc (by simp) _ |>.mono hb1.size)⟩

end Go.Proofs.Tryz
