/- 'both': two numbers, if both strings are valid. */ -/
import Derived.Test.YtdjnkaeggnkgeaaGreatDoorParse
namespace Go.Proofs.Tryz
open Go.RowKit Go.Shelf Go.Proofs.Dt

theorem results_rows_tmp {fn : Func} {p q u : Tmp} (h : fn.results = #[.cell p 50, .cell q 50, .tmp u]) (tmps : Array Value) (w : World) (g k : Nat) (t : TypeId) (c1 c2 d1 d2 : Value) (fr fr' : Nat × Nat)
    (hp : tmps.getD p undef = .pointer (some ⟨g, 0, none⟩)) (hq : tmps.getD q undef = .pointer (some ⟨k, 0, none⟩)) (hg : w.heap[g]? = some (.cells #[c1, c2] t fr)) (hk : w.heap[k]? = some (.cells #[d1, d2] t fr')) :
    (results fn tmps).run Tryz.prog w = .ok (.tuple #[.agg #[c1, c2], .agg #[d1, d2], tmps.getD u undef]) w := by
  have hp' : tmps[p]?.getD undef = .pointer (some ⟨g, 0, none⟩) := by simpa using hp
  have hq' : tmps[q]?.getD undef = .pointer (some ⟨k, 0, none⟩) := by simpa using hq
  have e1 := run_loadVar_row (P := Tryz.prog) w g t 50 #[c1, c2] fr _ hg Tryz.underlying50 rfl (by kernel_rfl)
  have e2 := run_loadVar_row (P := Tryz.prog) w k t 50 #[d1, d2] fr' _ hk Tryz.underlying50 rfl (by kernel_rfl)
  simp [results, h, hp', hq', asAddr, e1, e2]

/-- What 'both' returns. -/
def BothPost (s t : ByteArray) (w : World) (e : Ending) (w' : World) : Prop :=
  (valid s.data.toList = true ∧ valid t.data.toList = true ∧ ∃ x y, e = .returned (.tuple #[x, y, .bool true]) ∧ Par w' x (num s.data.toList) ∧ Par w' y (num t.data.toList) ∧ Below w.heap.size w w') ∨
  ((valid s.data.toList && valid t.data.toList) = false ∧ e = .returned (.tuple #[.agg #[.bool false, .slice none 0 0], .agg #[.bool false, .slice none 0 0], .bool false]) ∧ Below w.heap.size w w')

theorem Num.setNot {W : World} {v c : Value} {n b j : Nat} (h : Num W v n) (hc : W.cell? ⟨b, j, none⟩ = some c) (hn : ∀ i, c ≠ .int .i64 i) (u : Value) : Num (W.setCell ⟨b, j, none⟩ u) v n := by
  obtain ⟨xs, h, hr⟩ := h
  refine ⟨xs, ?_, hr⟩
  rcases h with h | ⟨g, off, cap, hv, hcap, hlt, hcell⟩
  · exact .inl h
  · refine .inr ⟨g, off, cap, hv, hcap, by simpa [World.setCell] using hlt, fun k hk => ?_⟩
    refine (World.cell?_setCell_other _ _ _ _ (fun e => ?_)).trans (hcell k hk)
    have := hcell k hk
    rw [← e, hc] at this
    exact hn _ (Option.some.inj this)

/-- Two result variables of type signed lie at the start of what the call laid. -/
structure Two (w W : World) (a b c d : Value) : Prop where
  k0 : W.heap[w.heap.size]? = some (.cells #[a, b] 50 (0, 0))
  k1 : W.heap[w.heap.size + 1]? = some (.cells #[c, d] 50 (0, 0))
  below : Below w.heap.size w W

section
variable {w W W' : World} {a b c d : Value}
theorem Two.start (w : World) (a b c d : Value) : Two w ((w.alloc (.cells #[a, b] 50)).alloc (.cells #[c, d] 50)) a b c d :=
  ⟨(Lib.alloc_old _ _ _ (by simp)).trans (heap_alloc_new w _), by simpa using heap_alloc_new (w.alloc (.cells #[a, b] 50)) (.cells #[c, d] 50), ((Below.refl _ w).alloc (Nat.le_refl _) _).alloc (by simp) _⟩
theorem Two.next (h : Two w W a b c d) (hb : Below W.heap.size W W') : Two w W' a b c d :=
  ⟨(hb.block _ (Array.getElem?_eq_some_iff.1 h.k0).1).trans h.k0, (hb.block _ (Array.getElem?_eq_some_iff.1 h.k1).1).trans h.k1, h.below.trans (hb.mono h.below.size)⟩
theorem Two.c00 (h : Two w W a b c d) : W.cell? ⟨w.heap.size, 0, none⟩ = some a := by rw [Lib.cell_of_heap h.k0]; rfl
theorem Two.c01 (h : Two w W a b c d) : W.cell? ⟨w.heap.size, 1, none⟩ = some b := by rw [Lib.cell_of_heap h.k0]; rfl
theorem Two.c10 (h : Two w W a b c d) : W.cell? ⟨w.heap.size + 1, 0, none⟩ = some c := by rw [Lib.cell_of_heap h.k1]; rfl
theorem Two.c11 (h : Two w W a b c d) : W.cell? ⟨w.heap.size + 1, 1, none⟩ = some d := by rw [Lib.cell_of_heap h.k1]; rfl
theorem Two.all (h : Two w W a b c d) : W.cell? ⟨w.heap.size, 0, none⟩ = some a ∧ W.cell? ⟨w.heap.size, 1, none⟩ = some b ∧ W.cell? ⟨w.heap.size + 1, 0, none⟩ = some c ∧ W.cell? ⟨w.heap.size + 1, 1, none⟩ = some d := ⟨h.c00, h.c01, h.c10, h.c11⟩
theorem Two.f0 (h : Two w W a b c d) (i : Nat) : W.frozen? ⟨w.heap.size, i, none⟩ = false := Lib.frozen_of_heap h.k0 i
theorem Two.f1 (h : Two w W a b c d) (i : Nat) : W.frozen? ⟨w.heap.size + 1, i, none⟩ = false := Lib.frozen_of_heap h.k1 i
theorem Two.s00 (h : Two w W a b c d) (x : Value) : Two w (W.setCell ⟨w.heap.size, 0, none⟩ x) x b c d :=
  ⟨by simp [World.setCell, Array.getElem?_modify, h.k0], (Below.heap_setCell _ _ _ _ (by simp)).trans h.k1, h.below.setCell (p := ⟨w.heap.size, 0, none⟩) (Nat.le_refl _) _⟩
theorem Two.s01 (h : Two w W a b c d) (x : Value) : Two w (W.setCell ⟨w.heap.size, 1, none⟩ x) a x c d :=
  ⟨by simp [World.setCell, Array.getElem?_modify, h.k0], (Below.heap_setCell _ _ _ _ (by simp)).trans h.k1, h.below.setCell (p := ⟨w.heap.size, 1, none⟩) (Nat.le_refl _) _⟩
theorem Two.s10 (h : Two w W a b c d) (x : Value) : Two w (W.setCell ⟨w.heap.size + 1, 0, none⟩ x) a b x d :=
  ⟨(Below.heap_setCell _ _ _ _ (by simp)).trans h.k0, by simp [World.setCell, Array.getElem?_modify, h.k1], h.below.setCell (p := ⟨w.heap.size + 1, 0, none⟩) (by show w.heap.size ≤ w.heap.size + 1; omega) _⟩
theorem Two.s11 (h : Two w W a b c d) (x : Value) : Two w (W.setCell ⟨w.heap.size + 1, 1, none⟩ x) a b c x :=
  ⟨(Below.heap_setCell _ _ _ _ (by simp)).trans h.k0, by simp [World.setCell, Array.getElem?_modify, h.k1], h.below.setCell (p := ⟨w.heap.size + 1, 1, none⟩) (by show w.heap.size ≤ w.heap.size + 1; omega) _⟩
end

set_option maxHeartbeats 2000000 in
set_option maxRecDepth 100000 in
theorem both_any (s t : ByteArray) (w : World) : Calls Tryz.prog 38 #[.string s, .string t] w (BothPost s t w) := by
  have hV := isValid_any s
  have hV2 := isValid_any t
  have hst := Lib.hid (Two.start w (.bool false) (.slice none 0 0) (.bool false) (.slice none 0 0))
  cases hs : valid s.data.toList with
  | false =>
    rw [hs] at hV
    have HS := Lib.hid hs
    clear hs
    go_enter Tryz.func38, Tryz.ntmps38
    go_wp2_with (go_at_call 47; refine (hV _).mono ?_; rintro e w1 ⟨rfl, hb1⟩; have S1 := hst.out.next hb1; have c00 := S1.c00; have c01 := S1.c01; have c10 := S1.c10; have c11 := S1.c11; have f00 := S1.f0 0; have f01 := S1.f0 1; have f10 := S1.f1 0; have f11 := S1.f1 1)
    have S2 := (((S1.s00 (.bool false)).s01 (.slice none 0 0)).s10 (.bool false)).s11 (.slice none 0 0)
    refine bodyPost_ret (results_rows_tmp (p := 4) (q := 5) (u := 6) (by kernel_rfl) _ _ w.heap.size (w.heap.size + 1) 50 _ _ _ _ (0, 0) (0, 0) rfl rfl S2.k0 S2.k1) rfl ?_
    exact .inr ⟨by rw [HS.out]; rfl, rfl, S2.below⟩
  | true =>
    rw [hs] at hV
    have HS := Lib.hid hs
    clear hs
    cases ht : valid t.data.toList with
    | false =>
      rw [ht] at hV2
      have HT := Lib.hid ht
      clear ht
      go_enter Tryz.func38, Tryz.ntmps38
      go_wp2_with fail
      refine (hV _).mono ?_
      rintro e w1 ⟨rfl, hb1⟩
      have S1 := hst.out.next hb1
      go_wp2_with (go_at_call 47; refine (hV2 _).mono ?_; rintro e w2 ⟨rfl, hb2⟩; have S2 := S1.next hb2; have c00 := S2.c00; have c01 := S2.c01; have c10 := S2.c10; have c11 := S2.c11; have f00 := S2.f0 0; have f01 := S2.f0 1; have f10 := S2.f1 0; have f11 := S2.f1 1)
      have S3 := (((S2.s00 (.bool false)).s01 (.slice none 0 0)).s10 (.bool false)).s11 (.slice none 0 0)
      refine bodyPost_ret (results_rows_tmp (p := 4) (q := 5) (u := 6) (by kernel_rfl) _ _ w.heap.size (w.heap.size + 1) 50 _ _ _ _ (0, 0) (0, 0) rfl rfl S3.k0 S3.k1) rfl ?_
      exact .inr ⟨by rw [HS.out, HT.out]; rfl, rfl, S3.below⟩
    | true =>
      rw [ht] at hV2
      have HT := Lib.hid ht
      clear ht
      go_enter Tryz.func38, Tryz.ntmps38
      go_wp2_with fail
      refine (hV _).mono ?_
      rintro e w1 ⟨rfl, hb1⟩
      have S1 := hst.out.next hb1
      clear hst hb1
      go_wp2_with fail
      refine (hV2 _).mono ?_
      rintro e w2 ⟨rfl, hb2⟩
      have S2 := S1.next hb2
      clear S1 hb2
      go_wp2_with fail
      refine (parse_any s _ HS.out).mono ?_
      rintro e w3 ⟨x, rfl, ⟨rx, rfl, nx⟩, hb3⟩
      have S3 := S2.next hb3
      clear S2 hb3
      go_wp2_with fail
      refine (parse_any t _ HT.out).mono ?_
      rintro e w4 ⟨y, rfl, ⟨ry, rfl, ny⟩, hb4⟩
      have S4 := S3.next hb4
      have nx4 := nx.below (Nat.le_refl _) hb4
      clear S3 hb4 nx
      obtain ⟨ax, lx, cx, rfl⟩ : ∃ a l c, rx = .slice a l c := by obtain ⟨xs, ix, _⟩ := nx4; obtain ⟨a, c, e⟩ := ix.shape; exact ⟨_, _, _, e⟩
      obtain ⟨ay, ly, cy, rfl⟩ : ∃ a l c, ry = .slice a l c := by obtain ⟨xs, ix, _⟩ := ny; obtain ⟨a, c, e⟩ := ix.shape; exact ⟨_, _, _, e⟩
      have c00 := S4.c00; have c01 := S4.c01; have c10 := S4.c10; have c11 := S4.c11; have f00 := S4.f0 0; have f01 := S4.f0 1; have f10 := S4.f1 0; have f11 := S4.f1 1
      go_wp2
      have A1 := S4.s00 (.bool (decide (num s.data.toList < 0)))
      have A2 := A1.s01 (.slice ax lx cx)
      have A3 := A2.s10 (.bool (decide (num t.data.toList < 0)))
      have A4 := A3.s11 (.slice ay ly cy)
      have keep : ∀ (v : Value) (n : Nat), Num w4 v n → Num ((((w4.setCell ⟨w.heap.size, 0, none⟩ (.bool (decide (num s.data.toList < 0)))).setCell ⟨w.heap.size, 1, none⟩ (.slice ax lx cx)).setCell ⟨w.heap.size + 1, 0, none⟩ (.bool (decide (num t.data.toList < 0)))).setCell ⟨w.heap.size + 1, 1, none⟩ (.slice ay ly cy)) v n := fun v n h =>
        (((h.setNot S4.c00 (fun i e => by cases e) _).setNot A1.c01 (fun i e => by cases e) _).setNot A2.c10 (fun i e => by cases e) _).setNot A3.c11 (fun i e => by cases e) _
      refine bodyPost_ret (results_rows_tmp (p := 4) (q := 5) (u := 6) (by kernel_rfl) _ _ w.heap.size (w.heap.size + 1) 50 _ _ _ _ (0, 0) (0, 0) rfl rfl A4.k0 A4.k1) rfl ?_
      exact .inl ⟨HS.out, HT.out, _, _, rfl, ⟨_, rfl, keep _ _ nx4⟩, ⟨_, rfl, keep _ _ ny⟩, A4.below⟩

end Go.Proofs.Tryz
