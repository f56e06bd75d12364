/- The reference's small fractions. -/
import Derived.Test.YtjjmabokoendbaaGreatDoorQA
import Derived.Deep.Cut
import Derived.Deep.RegionHeld3
namespace Go.Proofs.Tryz
open Go.RowKit Go.Shelf Go.Proofs.Dt

theorem results_row {fn : Func} {p : Tmp} (h : fn.results = #[.cell p 26]) (tmps : Array Value) (w : World) (g : Nat) (x y : ByteArray)
    (hp : tmps.getD p undef = .pointer (some ⟨g, 0, none⟩)) (hg : FB w g x y) :
    (results fn tmps).run Tryz.prog w = .ok (.agg #[.string x, .string y]) w := by
  have hp' : tmps[p]?.getD undef = .pointer (some ⟨g, 0, none⟩) := by simpa using hp
  have e1 := run_loadVar_row (P := Tryz.prog) w g 26 26 #[.string x, .string y] (0, 0) _ hg Tryz.underlying26 rfl (by kernel_rfl)
  simp [results, h, hp', asAddr, e1]

section
variable {W0 X W2 : World} {R : Prop}
theorem sk_at (h : Since W0 X ∧ R) : Since W0 X := h.1
theorem sk_next (h : Since W0 X ∧ R) (k : Since X W2) : Since W0 W2 := h.1.next k.out
theorem sk_alloc (h : Since W0 X ∧ R) (o : Obj) : Since W0 (X.alloc o) := h.1.out.alloc h.1.out.size o
theorem sk_size (h : Since W0 X ∧ R) (k : Since X W2) : W0.heap.size ≤ W2.heap.size := Nat.le_trans h.1.out.size k.out.size
theorem sk_put {b : Nat} (h : Since W0 X ∧ R) (hb : W0.heap.size ≤ b) (u v : Value) : Since W0 ((X.setCell ⟨b, 0, none⟩ u).setCell ⟨b, 1, none⟩ v) := h.1.put hb u v
theorem sk_realloc {o1 : Obj} (h : Since W0 (X.alloc o1) ∧ R) (hz : W0.heap.size ≤ X.heap.size) (o2 : Obj) : Since W0 (X.alloc o2) :=
  ⟨h.1.out.os, h.1.out.tape, h.1.out.output, by simpa using h.1.out.size, fun k hk => ((Below.heap_alloc X o2 k (by omega)).trans (Below.heap_alloc X o1 k (by omega)).symm).trans (h.1.out.block k hk)⟩
theorem FB.held {x y : ByteArray} (k : Since (X.alloc (.cells #[.string x, .string y] 26)) W2) : FB W2 X.heap.size x y := (FB.new X x y).below k.out (FB.new X x y).lt
theorem FB.heldd {x y : ByteArray} (k : Since (X.alloc (.cells #[.string x, .string y] 26)).drew W2) : FB W2 X.heap.size x y := FB.below (W := (X.alloc (.cells #[.string x, .string y] 26)).drew) (FB.new X x y) k.out (FB.new X x y).lt
end

abbrev I64 (x : Int) : Prop := -9223372036854775808 ≤ x ∧ x ≤ 9223372036854775807

theorem wrap_in {x : Int} (h0 : -9223372036854775808 ≤ x) (h1 : x ≤ 9223372036854775807) : IntKind.i64.wrap x = x := by
  show _ = _
  simp [IntKind.wrap, IntKind.bits, IntKind.signed]
  omega
/-- A fraction within bounds is returned. -/
def RatPost (w0 : World) (A B : Nat) (e : Ending) (w' : World) : Prop := ∃ (u v : ByteArray) (q : Rat), e = .returned (.agg #[.string u, .string v]) ∧ Hid (Fr u v q ∧ q.num.natAbs < A ∧ q.den < B) ∧ Since w0 w'

set_option maxHeartbeats 2000000 in
set_option maxRecDepth 100000 in
theorem small_any (x0 x1 : Int) (w : World) (h0 : Hid (I64 x0)) (h1 : Hid (I64 x1)) : Calls Tryz.prog 13 #[.agg #[.int .i64 x0, .int .i64 x1]] w (RatPost w 1000 61) := by
  obtain ⟨N, hN⟩ : ∃ N, N = pickZ x0 1999 - 999 := ⟨_, rfl⟩
  obtain ⟨D, hD⟩ : ∃ D, D = 1 + pickZ x1 60 := ⟨_, rfl⟩
  have b0 := pickZ_in x0 (n := 1999) (by decide)
  have b1 := pickZ_in x1 (n := 60) (by decide)
  have ND : Hid (-999 ≤ N ∧ N ≤ 999 ∧ 1 ≤ D ∧ D ≤ 60) := by show _ ∧ _ ∧ _ ∧ _; omega
  have hlN : N.natAbs < limit := small_limit (by have := ND.out; omega)
  have hlD : D.natAbs < limit := small_limit (by have := ND.out; omega)
  have hmk : makeR N D = some (Rat.divInt N D) := makeR_some (by have := ND.out; omega)
  obtain ⟨u, v, HFr⟩ : ∃ u v, Fr u v (Rat.divInt N D) := Fr.of_fits (hmk ▸ makeR_fits hlN hlD)
  have HO : Hid (out (makeR N D) = (u, v, 0)) := by show out _ = _; rw [hmk]; exact out_fr HFr
  have HP : Hid (Fr u v (Rat.divInt N D) ∧ (Rat.divInt N D).num.natAbs < 1000 ∧ (Rat.divInt N D).den < 61) := by
    have h := divInt_le' (N := N) (D := D) (by have := ND.out; omega)
    have := ND.out
    exact ⟨HFr, by omega, by omega⟩
  have NI : Hid (-9223372036854775808 ≤ N ∧ N ≤ 9223372036854775807) := by have := ND.out; show _ ∧ _; omega
  have DI : Hid (-9223372036854775808 ≤ D ∧ D ≤ 9223372036854775807) := by have := ND.out; show _ ∧ _; omega
  obtain ⟨p0, hp0⟩ : ∃ p, p = pickZ x0 1999 := ⟨_, rfl⟩
  obtain ⟨p1, hp1⟩ : ∃ p, p = pickZ x1 60 := ⟨_, rfl⟩
  rw [← hp0] at hN b0
  rw [← hp1] at hD b1
  have HP0 : Hid (∀ W, Calls Tryz.prog 46 #[.int .i64 x0, .int .i64 1999] W fun e w' => e = .returned (.int .i64 p0) ∧ W = w') := fun W => by rw [hp0]; exact qpick_any x0 1999 h0 (by decide) (by decide) W
  have HP1 : Hid (∀ W, Calls Tryz.prog 46 #[.int .i64 x1, .int .i64 60] W fun e w' => e = .returned (.int .i64 p1) ∧ W = w') := fun W => by rw [hp1]; exact qpick_any x1 60 h1 (by decide) (by decide) W
  have HOf : Hid (∀ W, Calls Tryz.prog 44 #[.int .i64 (p0 - 999), .int .i64 (1 + p1)] W (RedPost W u v 0)) := fun W => by rw [← hN, ← hD]; exact qof_any N D u v 0 W NI DI HO
  have hw0 : IntKind.i64.wrap (p0 - 999) = p0 - 999 := wrap_in (by omega) (by omega)
  have hw1 : IntKind.i64.wrap (1 + p1) = 1 + p1 := wrap_in (by omega) (by omega)
  clear hp0 hp1 hN hD HFr hmk hlN hlD NI DI HO
  have hF0 : FB ((w.alloc (.cells #[.int .i64 x0, .int .i64 x1] 23)).alloc (.cells #[.string ⟨#[]⟩, .string ⟨#[]⟩] 26)) (w.heap.size + 1) ⟨#[]⟩ ⟨#[]⟩ := by
    have h := FB.new (w.alloc (.cells #[.int .i64 x0, .int .i64 x1] 23)) ⟨#[]⟩ ⟨#[]⟩
    rw [World.size_alloc] at h; exact h
  have HF0 := Lib.hid hF0
  have HB0 : Since w ((w.alloc (.cells #[.int .i64 x0, .int .i64 x1] 23)).alloc (.cells #[.string ⟨#[]⟩, .string ⟨#[]⟩] 26)) := ((Below.refl _ w).alloc (Nat.le_refl _) _).alloc (by simp) _
  have HX : Hid (((w.alloc (.cells #[.int .i64 x0, .int .i64 x1] 23)).alloc (.cells #[.string ⟨#[]⟩, .string ⟨#[]⟩] 26)).cell? ⟨w.heap.size, 0, none⟩ = some (.int .i64 x0) ∧ ((w.alloc (.cells #[.int .i64 x0, .int .i64 x1] 23)).alloc (.cells #[.string ⟨#[]⟩, .string ⟨#[]⟩] 26)).cell? ⟨w.heap.size, 1, none⟩ = some (.int .i64 x1)) := by
    have h : ((w.alloc (.cells #[.int .i64 x0, .int .i64 x1] 23)).alloc (.cells #[.string ⟨#[]⟩, .string ⟨#[]⟩] 26)).heap[w.heap.size]? = some (.cells #[.int .i64 x0, .int .i64 x1] 23 (0, 0)) :=
      (Below.heap_alloc _ _ _ (by simp)).trans (World.alloc_heap_new w _)
    exact ⟨by rw [Lib.cell_of_heap h]; rfl, by rw [Lib.cell_of_heap h]; rfl⟩
  clear hF0
  have mixed : Tryz.prog.follows .mixedOrders = true := by kernel_rfl
  go_enter Tryz.func13, Tryz.ntmps13
  go_wp2_with fail
  generalize (w.alloc (.cells #[.int .i64 x0, .int .i64 x1] 23)).alloc (.cells #[.string ⟨#[]⟩, .string ⟨#[]⟩] 26) = W1 at HF0 HB0 HX ⊢
  have hx : W1.drew.cell? ⟨w.heap.size, 0, none⟩ = some (.int .i64 x0) ∧ W1.drew.cell? ⟨w.heap.size, 1, none⟩ = some (.int .i64 x1) := HX.out
  have HBd : Since w W1.drew := HB0.out.drew
  have HSall : Hid (∀ W', Since W1 W' → Since W1 W' ∧ W'.cell? ⟨w.heap.size, 0, none⟩ = some (.int .i64 x0) ∧ W'.cell? ⟨w.heap.size, 1, none⟩ = some (.int .i64 x1)) := by
    intro W' h
    have hk : w.heap.size < W1.heap.size := by have := HF0.out.lt; omega
    exact ⟨h, (h.out.cell (p := ⟨w.heap.size, 0, none⟩) hk).trans HX.out.1, (h.out.cell (p := ⟨w.heap.size, 1, none⟩) hk).trans HX.out.2⟩
  have HPd := HSall.out W1.drew (Since.refl W1).out.drew
  clear hx HBd
  go_cut [3, 4] from 5 (fun s3 s4 W => ∃ b3 : Nat, s3 = .pointer (some ⟨b3, 0, none⟩) ∧ s4 = .int .i64 0 ∧ Hid (FB W b3 u v ∧ Since W1 W ∧ W1.heap.size ≤ b3))
  case first =>
    go_region_held3 (fun W' => Since W1 W' ∧ W'.cell? ⟨w.heap.size, 0, none⟩ = some (.int .i64 x0) ∧ W'.cell? ⟨w.heap.size, 1, none⟩ = some (.int .i64 x1))
      (first | assumption | exact HSall.out _ (sk_next (by assumption) HB2) | exact HSall.out _ (sk_alloc (by assumption) _) | exact HSall.out _ (sk_realloc (by assumption) (by first | exact Nat.le_refl _ | assumption) _) | exact HSall.out _ (sk_put (by assumption) (by first | exact Nat.le_refl _ | assumption) _ _))
      (first
        | (go_at_call 44; refine (HOf.out _).mono ?_; rintro e W2 ⟨rfl, HB2⟩; have hz2 := sk_size (by assumption) HB2; (first | have HK2 := FB.held HB2 | have HK2 := FB.heldd HB2 | skip); (try have k0 := HK2.c0); (try have k1 := HK2.c1); (try have k2 := HK2.f0); (try have k3 := HK2.f1))
        | (go_at_call 46; with_reducible refine Calls.mono (HP0.out _) ?_; rintro e W2 ⟨rfl, hww⟩; subst hww)
        | (go_at_call 46; with_reducible refine Calls.mono (HP1.out _) ?_; rintro e W2 ⟨rfl, hww⟩; subst hww))
    all_goals
      (go_wp2_with fail
       go_meet
       case rel => first | exact ⟨_, rfl, rfl, FB.new _ _ _, sk_at (by assumption), hz2⟩ | exact ⟨_, rfl, rfl, HK2.put _ _, sk_at (by assumption), by first | exact Nat.le_refl _ | exact hz2⟩)
  case rest =>
    obtain ⟨b3, h3, h4, HC⟩ := hcut
    subst h3 h4
    have HF2 : Hid (FB wc (w.heap.size + 1) ⟨#[]⟩ ⟨#[]⟩) := HF0.out.below HC.out.2.1.out HF0.out.lt
    have HB2 : Since w wc := HB0.next HC.out.2.1.out
    have a0 := HC.out.1.c0; have a1 := HC.out.1.c1
    have f0 := HF2.out.f0; have f1 := HF2.out.f1
    have q0 := HF2.out.c0; have q1 := HF2.out.c1
    go_wp2
    refine bodyPost_ret (results_row (p := 2) (by kernel_rfl) _ _ (w.heap.size + 1) _ _ rfl (HF2.out.put _ _)) rfl ?_
    exact ⟨_, _, _, rfl, HP, HB2.put (by omega) _ _⟩

end Go.Proofs.Tryz
