/- 'compare': the order of two numbers. -/
import Derived.Test.YtdjnkaeggnkgeaaGreatDoorBack
namespace Go.Proofs.Tryz
open Go.RowKit Go.Proofs.Dt Go.Shelf

attribute [local go_sem] Oper.semAt_some

set_option maxRecDepth 100000 in
set_option maxHeartbeats 1000000 in
/-- Lists of different lengths. -/
theorem compare_len (a1 a2 : Option Addr) (n1 n2 c1 c2 : Nat) (w : World) (hne : n1 ≠ n2) :
    Calls Tryz.prog 46 #[.slice a1 n1 c1, .slice a2 n2 c2] w fun e w' => e = .returned (.int .i64 (cmpI n1 n2)) ∧ Below w.heap.size w w' := by
  have hd : ((n1 : Int) != (n2 : Int)) = true := by simpa using (by omega : (n1 : Int) ≠ n2)
  go_enter Tryz.func46, Tryz.ntmps46
  go_wp2_with fail
  refine (cmp_any _ _ _).mono ?_
  rintro e w' ⟨rfl, rfl⟩
  go_wp2
  refine bodyPost_ret (v := .int .i64 (cmpI n1 n2)) (by simp [results, Tryz.results46, go_sem]) rfl ⟨rfl, ?_⟩
  exact ((Below.refl _ w).alloc (Nat.le_refl _) _).alloc (by simp) _

set_option maxRecDepth 100000 in
set_option maxHeartbeats 2000000 in
theorem compare_in (F : Fence) (n : Nat) (hf0 : F.fn 46) (hf1 : F.fn 60) (hf2 : F.fn 78) (hf3 : F.fn 72) (hro : F.round = none) (hn : 3 ≤ n)
    (hC : ∀ (m : Nat) (x y : Int) (W : World), CallsIn F m Tryz.prog 72 #[.int .i64 x, .int .i64 y] W fun e w' => e = .returned (.int .i64 (cmpI x y)) ∧ W = w')
    (v u : Value) (xs ys : List Int) (w : World) (ix : Ints w v xs) (iy : Ints w u ys) (hlen : xs.length = ys.length) (hl : xs.length ≤ 1000) :
    CallsIn F n Tryz.prog 46 #[v, u] w fun e W' =>
      ((e = .returned (.int .i64 0) ∧ xs = ys) ∨ (∃ k : Nat, k < xs.length ∧ e = .returned (.int .i64 (cmpI (xs[k]?.getD 0) (ys[k]?.getD 0))) ∧ xs[k]?.getD 0 ≠ ys[k]?.getD 0 ∧ xs.drop (k + 1) = ys.drop (k + 1))) ∧ Below w.heap.size w W' := by
  obtain ⟨av, cv, rfl⟩ := ix.shape
  obtain ⟨au, cu, rfl⟩ := iy.shape
  have hd : ((xs.length : Int) != (ys.length : Int)) = false := by rw [hlen]; simp
  have h1 : 1 ≤ n := by omega
  have h11 : 1 ≤ n - 1 - 1 := by omega
  refine callsIn_of_wp_marks Tryz.func46 rfl hf0 ?_ hro
  simp only [Tryz.ntmps46, List.size_toArray, List.length_cons, List.length_nil, Nat.reduceAdd, Nat.reduceSub, Array.replicate_succ, Array.replicate_zero, List.push_toArray, List.append_toArray, List.nil_append, List.cons_append]
  have HL := Lib.hid hlen
  clear hlen
  gi_wp2_with (gi_at_call 60; refine (back_in F (n - 1) hf1 hro _ _ _ _).mono ?_; rintro e w' ⟨rfl, rfl⟩)
  have hB0 : Below w.heap.size w (((w.alloc (.cells #[.slice au ys.length cu] 48)).alloc (.cells #[.int .i64 0] 3)).alloc (.cells #[.slice av xs.length cv] 48)) := (((Below.refl _ w).alloc (Nat.le_refl _) _).alloc (by simp) _).alloc (by simp; omega) _
  have bM := Boxed.new w 48 (.slice au ys.length cu)
  have bR := Boxed.new (w.alloc (.cells #[.slice au ys.length cu] 48)) 3 (.int .i64 0)
  have bI := Boxed.new ((w.alloc (.cells #[.slice au ys.length cu] 48)).alloc (.cells #[.int .i64 0] 3)) 48 (.slice av xs.length cv)
  rw [World.size_alloc] at bR
  rw [World.size_alloc, World.size_alloc] at bI
  have bM := (bM.alloc (.cells #[.int .i64 0] 3)).alloc (.cells #[.slice av xs.length cv] 48)
  have bR := bR.alloc (.cells #[.slice av xs.length cv] 48)
  obtain ⟨W0, hW0⟩ : ∃ W0, W0 = (((w.alloc (.cells #[.slice au ys.length cu] 48)).alloc (.cells #[.int .i64 0] 3)).alloc (.cells #[.slice av xs.length cv] 48)) := ⟨_, rfl⟩
  have s0 : W0.heap.size = w.heap.size + 3 := by rw [hW0]; simp
  rw [← hW0] at bM bR bI
  rw [← hW0] at hB0 ⊢
  clear hW0
  refine wpIn_rangeFunc_ownG hro h1 (gf := 78) (lb := #[.pointer (some ⟨w.heap.size + 1 + 1, 0, none⟩)]) rfl hf2 (enters_of Tryz.func78 (by kernel_rfl) rfl)
    (back_stops F (n - 1) hf2 hro (by omega) (w.heap.size + 1 + 1) w.heap.size _ xs (by omega) W0 (by omega) bI.cell w (Nat.le_refl _) hB0 ix) keepsBox_t (keepsBox_b (by omega) (by omega)) (Below.refl _ _) (fun _ => rfl)
    (fun pre W => ((∀ p ∈ pre, grp xs p = ys[p.val]?.getD 0) ∧ W.cell? ⟨w.heap.size, 0, none⟩ = some (.slice au ys.length cu) ∧ W.cell? ⟨w.heap.size + 1, 0, none⟩ = some (.int .i64 0) ∧ W.frozen? ⟨w.heap.size + 1, 0, none⟩ = false) ∧ Below w.heap.size w W)
    (fun c pre W => (c = .ret ∧ ∃ ini last, pre = ini ++ [last] ∧ (∀ p ∈ ini, grp xs p = ys[p.val]?.getD 0) ∧ grp xs last ≠ ys[last.val]?.getD 0 ∧ W.cell? ⟨w.heap.size + 1, 0, none⟩ = some (.int .i64 (cmpI (grp xs last) (ys[last.val]?.getD 0)))) ∧ Below w.heap.size w W)
    (OwnFrom.and (Own.from (fun s A B row hs hg hr => ⟨hs.1, cell_kept hs.2.1 hg hr, cell_kept hs.2.2.1 hg hr, (frozen_kept hs.2.2.1 hg hr).trans hs.2.2.2⟩) _) (ownFrom_below (Nat.le_refl _) (by omega)))
    (fun c => OwnFrom.and (Own.from (fun s A B row hs hg hr => by obtain ⟨hc, ini, last, e1, e2, e3, e4⟩ := hs; exact ⟨hc, ini, last, e1, e2, e3, cell_kept e4 hg hr⟩) _) (ownFrom_below (Nat.le_refl _) (by omega)))
    ⟨⟨by simp, bM.cell, bR.cell, bR.frozen⟩, hB0⟩
    (fun x => { tmps := #[.slice av xs.length cv, .slice au ys.length cu, undef, .pointer (some ⟨w.heap.size, 0, none⟩), .pointer (some ⟨w.heap.size + 1, 0, none⟩), .int .i64 (x.val : Int), .int .i64 (grp xs x), .slice av xs.length cv, .int .i64 xs.length, .slice au ys.length cu, .int .i64 ys.length, .bool false, undef, undef, undef, undef, undef, .slice av xs.length cv,
      .func (.func 78) #[] #[.pointer (some ⟨w.heap.size + 1 + 1, 0, none⟩)], .int .i64 (x.val : Int), .int .i64 (grp xs x), undef, undef, undef, undef, undef, undef, undef, undef, undef, undef, undef, undef], defers := [] }) ?assign ?body ?done ?stop
  case assign =>
    intro l x W K hK
    gi_wp2
    exact hK
  case body =>
    rintro l pre x W ⟨⟨hp, hm, hr, hf⟩, hB⟩ hlt
    have hxl := x.isLt
    rcases iy with ⟨_, rfl⟩ | ⟨b, off, cap, hu, _, hb, hcs⟩
    · have := HL.out; rw [List.length_nil] at this; omega
    · simp only [Value.slice.injEq] at hu
      obtain ⟨rfl, _, rfl⟩ := hu
      have hcx := (hB.cell (p := ⟨b, off + x.val, none⟩) hb).trans (hcs x.val (by rw [← HL.out]; exact hxl))
      have hxy : x.val < ys.length := by rw [← HL.out]; exact hxl
      generalize hX : grp xs x = X
      generalize hY : ys[x.val]?.getD 0 = Y at hcx
      have HX := Lib.hid hX
      have HY := Lib.hid hY
      have HP := Lib.hid hp
      clear hX hY hp hcs hlt
      by_cases e : X = Y
      · have he : (X != Y) = false := by simpa using e
        have E := Lib.hid e
        clear e
        gi_wp2
        exact ⟨KeepsFrom.refl _ _, KeepsBox.refl _ _ _, ⟨fun p hp' => (List.mem_append.1 hp').elim (HP.out p) (fun e => by rw [List.mem_singleton] at e; subst e; rw [HX.out, HY.out]; exact E.out), hm, hr, hf⟩, hB⟩
      · have he : (X != Y) = true := by simpa using e
        have E := Lib.hid e
        clear e
        gi_wp2_with (gi_at_call 72; go_must (refine (CallsIn.inRound l (hC _ _ _ _)).mono ?_); rintro e w' ⟨rfl, rfl⟩)
        exact ⟨(KeepsOthers.setCell _ _ _).from _, ⟨rfl, pre, x, rfl, HP.out, by rw [HX.out, HY.out]; exact E.out, by rw [HX.out, HY.out]; exact World.cell?_setCell_same' _ _ _ (by rw [hr]; rfl)⟩, hB.setCell (p := ⟨w.heap.size + 1, 0, none⟩) (by show w.heap.size ≤ w.heap.size + 1; omega) _⟩
  case done =>
    rintro D zs W hD hzs ⟨⟨hp, hm, hr, hf⟩, hB⟩ hK
    have HZ := Lib.hid hzs
    have HP := Lib.hid hp
    clear hzs hp
    gi_wp2
    have hK' := (KeepsOthers.setCell W ⟨w.heap.size + 1, 0, none⟩ (.int .i64 0)).same D _ hK rfl
    refine ⟨by simp, .inl ⟨_, _, rfl, run_takeDeferred hK', ?_⟩⟩
    have hc5 := cell_kept (World.cell?_setCell_same' W ⟨w.heap.size + 1, 0, none⟩ (.int .i64 0) (by rw [hr]; rfl)) (grownBy_putObj' _ D (.deferred none)) (fun r e => by cases e; exact ⟨_, hK', rfl⟩)
    refine ⟨.int .i64 0, by simp [results, Tryz.f46, go_sem, hc5], .inl ⟨rfl, ?_⟩, (hB.setCell (p := ⟨w.heap.size + 1, 0, none⟩) (by show w.heap.size ≤ w.heap.size + 1; omega) _).trans (belowK_b (w := w) (Nat.le_refl _) _ D _ _ (by omega) hK' rfl rfl)⟩
    refine List.ext_getElem HL.out (fun i h1 h2 => ?_)
    have hm : (⟨i, h1⟩ : Fin xs.length) ∈ zs := by
      have : i ∈ zs.map Fin.val := by
        rw [HZ.out]; unfold dn; rw [List.mem_map]; exact ⟨xs.length - 1 - i, by simp; omega, by omega⟩
      obtain ⟨y, hy, rfl⟩ := List.mem_map.1 this
      exact hy
    have := HP.out _ hm
    simpa [grp, h2] using this
  case stop =>
    rintro D c pre W hD ⟨k, hk, hpre⟩ ⟨⟨rfl, ini, last, e1, e2, e3, hcr⟩, hB⟩ hK
    have H1 := Lib.hid hpre
    have H2 := Lib.hid e1
    have H3 := Lib.hid e2
    have H4 := Lib.hid e3
    clear hpre e1 e2 e3
    gi_wp2
    refine ⟨by simp, .inl ⟨_, _, rfl, run_takeDeferred hK, ?_⟩⟩
    have hc5 := cell_kept hcr (grownBy_putObj' _ D (.deferred none)) (fun r e => by cases e; exact ⟨_, hK, rfl⟩)
    have hk' : k ≠ 0 := by
      intro e0; have := H1.out; rw [H2.out, e0] at this; simp [dn] at this
    obtain ⟨k', rfl⟩ : ∃ k', k = k' + 1 := ⟨k - 1, by omega⟩
    have hlast : last.val = xs.length - 1 - k' ∧ ini.map Fin.val = dn xs.length k' := by
      have := H1.out
      rw [H2.out, dn_succ, List.map_append] at this
      obtain ⟨h1, h2⟩ := List.append_inj' this rfl
      exact ⟨by simpa using h2, h1⟩
    refine ⟨.int .i64 (cmpI (grp xs last) (ys[last.val]?.getD 0)), by simp [results, Tryz.f46, go_sem, hc5], .inr ⟨last.val, last.isLt, by rw [grp_eq], by rw [grp_eq]; exact H4.out, ?_⟩, hB.trans (belowK_b (w := w) (Nat.le_refl _) W D _ _ (by omega) hK rfl rfl)⟩
    refine List.ext_getElem (by have := HL.out; rw [List.length_drop, List.length_drop]; omega) (fun i h1 h2 => ?_)
    rw [List.getElem_drop, List.getElem_drop]
    rw [List.length_drop] at h1 h2
    have hlt : last.val + 1 + i < xs.length := by omega
    have hm : (⟨last.val + 1 + i, hlt⟩ : Fin xs.length) ∈ ini := by
      have : last.val + 1 + i ∈ ini.map Fin.val := by
        rw [hlast.2]; unfold dn; rw [List.mem_map]; exact ⟨xs.length - 1 - (last.val + 1 + i), by simp; omega, by omega⟩
      obtain ⟨y, hy, hyy⟩ := List.mem_map.1 this
      have : y = ⟨last.val + 1 + i, hlt⟩ := Fin.ext hyy
      rw [← this]; exact hy
    have := H3.out _ hm
    have h3 : last.val + 1 + i < ys.length := by have := HL.out; omega
    simpa [grp, h3] using this

/-- 'compare' of two numbers. -/
theorem compare_any (v u : Value) (a b : Nat) (w : World) (ha : Num w v a) (hb : Num w u b) (fa : Fits a) : Calls Tryz.prog 46 #[v, u] w fun e w' => e = .returned (.int .i64 (cmpI a b)) ∧ Below w.heap.size w w' := by
  obtain ⟨xs, ix, rx⟩ := ha
  obtain ⟨ys, iy, ry⟩ := hb
  have lx := rep_short rx fa
  by_cases hl : xs.length = ys.length
  · refine (callsIn_wide.1 (compare_in Fence.wide 3 trivial trivial trivial trivial rfl (Nat.le_refl _) (fun m x y W => callsIn_wide.2 (cmp_any x y W)) v u xs ys w ix iy hl lx)).mono ?_
    rintro e w' ⟨h, hw⟩
    refine ⟨?_, hw⟩
    rcases h with ⟨rfl, rfl⟩ | ⟨k, hk, rfl, hne, hdr⟩
    · have : (a : Int) = b := by rw [← rx.val, ← ry.val]
      rw [this]; simp [cmpI]
    · congr 2
      unfold cmpI
      rcases Int.lt_trichotomy (xs[k]?.getD 0) (ys[k]?.getD 0) with h | h | h
      · have := lt_of_differ (by decide) rx ry hl hk hdr h
        rw [if_pos h, if_pos (by omega)]
      · exact absurd h hne
      · have := lt_of_differ (by decide) ry rx hl.symm (by omega) hdr.symm h
        rw [if_neg (by omega), if_pos h, if_neg (by omega), if_pos (by omega)]
  · obtain ⟨a1, c1, rfl⟩ := ix.shape
    obtain ⟨a2, c2, rfl⟩ := iy.shape
    refine (compare_len a1 a2 _ _ c1 c2 w hl).mono ?_
    rintro e w' ⟨rfl, hw⟩
    refine ⟨?_, hw⟩
    congr 2
    unfold cmpI
    rcases Nat.lt_trichotomy xs.length ys.length with h | h | h
    · have := lt_of_length (by decide) rx ry h
      rw [if_pos (by omega), if_pos (by omega)]
    · exact absurd h hl
    · have := lt_of_length (by decide) ry rx h
      rw [if_neg (by omega), if_pos (by omega), if_neg (by omega), if_pos (by omega)]

end Go.Proofs.Tryz
