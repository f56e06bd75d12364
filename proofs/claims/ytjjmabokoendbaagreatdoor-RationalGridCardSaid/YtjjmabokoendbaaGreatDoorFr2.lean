/- Two integers as a fraction in lowest terms: reduced, Make and Of of package rational. -/
import Derived.Test.YtjjmabokoendbaaGreatDoorFr1
namespace Go.Proofs.Dt
/-- What 'reduced' computes on the way: the sign moved into the numerator, the common divisor. -/
theorem red_low {N D : Int} (hD : 0 < D) : N / (Int.gcd N D : Int) = (Rat.divInt N D).num ∧ D / (Int.gcd N D : Int) = ((Rat.divInt N D).den : Int) := ⟨(divInt_pos hD).1.symm, (divInt_pos hD).2.symm⟩
theorem red_exact {N D : Int} (hD : 0 < D) : (Int.gcd N D : Int) ≠ 0 := by
  have := Int.gcd_pos_of_ne_zero_right N (show D ≠ 0 by omega)
  omega
theorem zero_ne {y : ByteArray} {D : Int} (h : Is y D) (h0 : D ≠ 0) : (y.toList == [48]) = false := toList_ne_zero fun e => h0 ((Is.inj h Is.zero).1 e)
theorem Is.of_valid {x : ByteArray} (h : valid x.data.toList = true) : Is x (num x.data.toList) := Is.lit h rfl
/-- Two strings as a fraction. -/
def makeS (n d : List UInt8) : Option Rat := if valid n && valid d then makeR (num n) (num d) else none
theorem lim_zero : (0 : Int).natAbs < limit := small_limit (by decide)
end Go.Proofs.Dt
namespace Go.Proofs.Tryz
open Go.RowKit Go.Shelf Go.Proofs.Dt

theorem results_row_tmp {fn : Func} {p u : Tmp} (h : fn.results = #[.cell p 26, .tmp u]) (tmps : Array Value) (w : World) (g : Nat) (x y : ByteArray)
    (hp : tmps.getD p undef = .pointer (some ⟨g, 0, none⟩)) (hg : FB w g x y) :
    (results fn tmps).run Tryz.prog w = .ok (.tuple #[.agg #[.string x, .string y], tmps.getD u undef]) w := by
  have hp' : tmps[p]?.getD undef = .pointer (some ⟨g, 0, none⟩) := by simpa using hp
  have e1 := run_loadVar_row (P := Tryz.prog) w g 26 26 #[.string x, .string y] (0, 0) _ hg Tryz.underlying26 rfl (by kernel_rfl)
  simp [results, h, hp', asAddr, e1]

theorem FB.put {W : World} {k : Nat} {x y : ByteArray} (h : FB W k x y) (a b : ByteArray) : FB ((W.setCell ⟨k, 0, none⟩ (.string a)).setCell ⟨k, 1, none⟩ (.string b)) k a b := by
  have h' : W.heap[k]? = some (.cells #[.string x, .string y] 26 (0, 0)) := h
  show _ = _
  simp [World.setCell, Array.getElem?_modify, h']
theorem Since.put {w0 W : World} {k : Nat} (h : Since w0 W) (hk : w0.heap.size ≤ k) (u v : Value) : Since w0 ((W.setCell ⟨k, 0, none⟩ u).setCell ⟨k, 1, none⟩ v) :=
  (h.out.setCell (p := ⟨k, 0, none⟩) hk u).setCell (p := ⟨k, 1, none⟩) hk v
theorem Since.gr {w0 W W' : World} {b : Nat} (h : Since w0 W) (g : Hid (Gr b W W')) (hb : w0.heap.size ≤ b) : Since w0 W' := Gr.since h g.out hb

theorem Gr.put {b : Nat} {w W : World} {k : Nat} (h : Gr b w W) (hk : w.heap.size ≤ k) (u v : Value) : Gr b w ((W.setCell ⟨k, 0, none⟩ u).setCell ⟨k, 1, none⟩ v) :=
  ⟨h.os, h.tape, h.output, by simpa [World.setCell] using h.size, fun j hj hne => ((Below.heap_setCell _ _ _ _ (by show j ≠ k; omega)).trans (Below.heap_setCell _ _ _ _ (by show j ≠ k; omega))).trans (h.block j hj hne)⟩

/-- What 'reduced' returns. -/
def RedPost (w0 : World) (u v : ByteArray) (c : Int) (e : Ending) (w' : World) : Prop := e = .returned (.tuple #[.agg #[.string u, .string v], .int .i64 c]) ∧ Since w0 w'

set_option maxHeartbeats 2000000 in
set_option maxRecDepth 100000 in
theorem reduced_gr (b : Nat) (bad : Bool) (n d u v : ByteArray) (c : Int) (o : Option Rat) (w0 w : World) (ht : Hid (Tab w0)) (hB : Since w0 w) (hb0 : w0.heap.size ≤ b) (hw : Hid (Work w b bad))
    (hr : Hid (out o = (u, v, c))) (h : Hid (if bad = true then o = none else valid n.data.toList = true ∧ valid d.data.toList = true ∧ o = makeR (num n.data.toList) (num d.data.toList))) :
    Calls Tryz.prog 54 #[.pointer (some ⟨b, 0, none⟩), .string n, .string d] w fun e w' => e = .returned (.tuple #[.agg #[.string u, .string v], .int .i64 c]) ∧ Hid (Gr b w w') ∧ Since w0 w' := by
  have HF0 : Hid (FB (w.alloc (.cells #[.string ⟨#[]⟩, .string ⟨#[]⟩] 26)) w.heap.size ⟨#[]⟩ ⟨#[]⟩) := FB.new w _ _
  have HB0 : Since w0 (w.alloc (.cells #[.string ⟨#[]⟩, .string ⟨#[]⟩] 26)) := hB.out.alloc hB.out.size _
  have HGr0 : Hid (Gr b w (w.alloc (.cells #[.string ⟨#[]⟩, .string ⟨#[]⟩] 26))) := Gr.of_below ((Below.refl _ w).alloc (Nat.le_refl _) _)
  have HW0 : Hid (Work (w.alloc (.cells #[.string ⟨#[]⟩, .string ⟨#[]⟩] 26)) b bad) := hw.out.alloc _
  have hks : Hid (w0.heap.size ≤ w.heap.size) := hB.out.size
  have hkb : Hid (w.heap.size ≠ b) := by have := hw.out.lt; show _ ≠ _; omega
  have c0 := HW0.out.cell
  have f0 := HF0.out.f0
  have f1 := HF0.out.f1
  have q0 := HF0.out.c0
  have q1 := HF0.out.c1
  clear hB hw
  cases bad with
  | true =>
    obtain rfl : o = none := h.out
    cases hr.out
    go_enter Tryz.func54, Tryz.ntmps54
    go_wp2
    refine bodyPost_ret (results_row_tmp (p := 6) (u := 7) (by kernel_rfl) _ _ w.heap.size _ _ rfl HF0.out) rfl ?_
    exact ⟨rfl, HGr0, HB0⟩
  | false =>
    have h2 := Lib.hid (show valid n.data.toList = true ∧ valid d.data.toList = true ∧ o = makeR (num n.data.toList) (num d.data.toList) from h.out)
    have In : Is n (num n.data.toList) := Is.of_valid h2.out.1
    have Id : Is d (num d.data.toList) := Is.of_valid h2.out.2.1
    have bN := num_lt h2.out.1
    have bD := num_lt h2.out.2.1
    have ho := h2.out.2.2
    clear h h2
    revert In Id bN bD ho
    generalize num n.data.toList = N
    generalize num d.data.toList = D
    intro In Id bN bD ho
    by_cases hD : D = 0
    · subst hD
      obtain rfl : d = ⟨#[48]⟩ := (Is.inj Id Is.zero).2 rfl
      subst ho
      cases hr.out
      clear In Id bN bD
      go_enter Tryz.func54, Tryz.ntmps54
      go_wp2
      refine bodyPost_ret (results_row_tmp (p := 6) (u := 7) (by kernel_rfl) _ _ w.heap.size _ _ rfl HF0.out) rfl ?_
      exact ⟨rfl, HGr0, HB0⟩
    · have hz := zero_ne Id hD
      rw [makeR_some hD] at ho
      subst ho
      obtain ⟨rfl, rfl, rfl⟩ : u = sx (Rat.divInt N D).num ∧ v = sx ((Rat.divInt N D).den : Int) ∧ c = 0 := by
        have e := hr.out
        unfold out nS dS cS at e
        simp only [Prod.mk.injEq] at e
        exact ⟨e.1.symm, e.2.1.symm, e.2.2.symm⟩
      clear hr
      rcases Int.lt_or_gt_of_ne hD with hs | hs
      · have F1 : Hid (cmpS d.data.toList (⟨#[48]⟩ : ByteArray).data.toList = -1) := (cmp_is Id Is.zero bD lim_zero).trans (sgn_of_lt (by omega))
        obtain ⟨n', In'⟩ := Is.exists (0 - N)
        obtain ⟨d', Id'⟩ := Is.exists (0 - D)
        have F2 : Hid (Unless false <| subS (⟨#[48]⟩ : ByteArray).data.toList n.data.toList = (n'.data.toList, 0)) := fun _ => sub_is Is.zero In In' lim_zero bN (by omega) rfl
        have F3 : Hid (Unless false <| subS (⟨#[48]⟩ : ByteArray).data.toList d.data.toList = (d'.data.toList, 0)) := fun _ => sub_is Is.zero Id Id' lim_zero bD (by omega) rfl
        obtain ⟨g, Ig⟩ := Is.exists (Int.gcd (0 - N) (0 - D) : Int)
        obtain ⟨s1, Is1⟩ := Is.exists ((0 - N) % (Int.gcd (0 - N) (0 - D) : Int))
        obtain ⟨s2, Is2⟩ := Is.exists ((0 - D) % (Int.gcd (0 - N) (0 - D) : Int))
        have bg : (Int.gcd (0 - N) (0 - D) : Int).natAbs < limit := by have := gcd_le_limit (x := (0 - N)) (y := (0 - D)) (by omega) (by omega); rw [Int.natAbs_natCast]; exact this
        have F4 : Hid (Unless false <| gcdS n'.data.toList d'.data.toList = (g.data.toList, 0)) := fun _ => gcd_is In' Id' Ig (by omega) (by omega) rfl
        obtain ⟨u, Iu⟩ := Is.exists (Rat.divInt N D).num
        obtain ⟨v, Iv⟩ := Is.exists ((Rat.divInt N D).den : Int)
        have F5 : Hid (Unless false <| divS n'.data.toList g.data.toList = (u.data.toList, s1.data.toList, 0)) := fun _ => div_is In' Ig Iu Is1 (by omega) bg (red_exact (by omega)) (by rw [divInt_neg]; exact (red_low (by omega)).1) rfl
        have F6 : Hid (Unless false <| divS d'.data.toList g.data.toList = (v.data.toList, s2.data.toList, 0)) := fun _ => div_is Id' Ig Iv Is2 (by omega) bg (red_exact (by omega)) (by rw [divInt_neg]; exact (red_low (by omega)).2) rfl
        have HU : Hid (sx (Rat.divInt N D).num = u ∧ sx ((Rat.divInt N D).den : Int) = v) := ⟨(show u = _ from Iu).symm, (show v = _ from Iv).symm⟩
        clear In Id bN bD hD hs Ig Is1 Is2 bg Iu Iv In' Id'
        rw [HU.out.1, HU.out.2]
        clear HU
        go_enter Tryz.func54, Tryz.ntmps54
        go_wp2_with fail
        clear c0 f0 f1 q0 q1
        generalize w.alloc (.cells #[.string ⟨#[]⟩, .string ⟨#[]⟩] 26) = w00 at HF0 HB0 HW0 HGr0 ⊢
        refine (compareS_any d _ w00).mono ?_
        rw [F1.out]
        rintro e w1 ⟨rfl, hb1⟩
        have HB1 : Since w0 w1 := HB0.next hb1
        have HGr1 : Hid (Gr b w w1) := HGr0.out.trans (Gr.of_below hb1)
        have HW1 : Hid (Work w1 b false) := boxed_below HW0.out hb1 HW0.out.lt
        have HF1 : Hid (FB w1 w.heap.size ⟨#[]⟩ ⟨#[]⟩) := HF0.out.below hb1 HF0.out.lt
        clear hb1 HF0 HB0 HW0 HGr0
        go_wp2_with fail
        refine (wsub_any b false false _ n n' n' 0 w0 w1 ht HB1 hb0 HW1 (Did.ok _) F2).mono ?_
        rintro e w2 ⟨rfl, HW2, HG2, HB2⟩
        have HGr2 : Hid (Gr b w w2) := HGr1.out.trans HG2.out
        have HF2 : Hid (FB w2 w.heap.size ⟨#[]⟩ ⟨#[]⟩) := HF1.out.kept HG2.out hkb.out
        go_wp2_with fail
        refine (wsub_any b false false _ d d' d' 0 w0 w2 ht HB2 hb0 HW2 (Did.ok _) F3).mono ?_
        rintro e w3 ⟨rfl, HW3, HG3, HB3⟩
        have HGr3 : Hid (Gr b w w3) := HGr2.out.trans HG3.out
        have HF3 : Hid (FB w3 w.heap.size ⟨#[]⟩ ⟨#[]⟩) := HF2.out.kept HG3.out hkb.out
        go_wp2_with fail
        refine (wgcd_any b false false n' d' g g 0 w0 w3 ht HB3 hb0 HW3 (Did.ok _) F4).mono ?_
        rintro e w4 ⟨rfl, HW4, HG4, HB4⟩
        have HGr4 : Hid (Gr b w w4) := HGr3.out.trans HG4.out
        have HF4 : Hid (FB w4 w.heap.size ⟨#[]⟩ ⟨#[]⟩) := HF3.out.kept HG4.out hkb.out
        go_wp2_with fail
        refine (wquot_any b false false n' g u s1 u 0 w0 w4 ht HB4 hb0 HW4 (Did.ok _) F5).mono ?_
        rintro e w5 ⟨rfl, HW5, HG5, HB5⟩
        have HGr5 : Hid (Gr b w w5) := HGr4.out.trans HG5.out
        have HF5 : Hid (FB w5 w.heap.size ⟨#[]⟩ ⟨#[]⟩) := HF4.out.kept HG5.out hkb.out
        go_wp2_with fail
        refine (wquot_any b false false d' g v s2 v 0 w0 w5 ht HB5 hb0 HW5 (Did.ok _) F6).mono ?_
        rintro e w6 ⟨rfl, HW6, HG6, HB6⟩
        have HGr6 : Hid (Gr b w w6) := HGr5.out.trans HG6.out
        have HF6 : Hid (FB w6 w.heap.size ⟨#[]⟩ ⟨#[]⟩) := HF5.out.kept HG6.out hkb.out
        have HWa : Hid (Work (w6.alloc (.cells #[.string u, .string v] 26)) b false) := HW6.out.alloc _
        have HFa : Hid (FB (w6.alloc (.cells #[.string u, .string v] 26)) w.heap.size ⟨#[]⟩ ⟨#[]⟩) := (Below.heap_alloc _ _ _ HF6.out.lt).trans HF6.out
        have HGra : Hid (Gr b w (w6.alloc (.cells #[.string u, .string v] 26))) := HGr6.out.trans (Gr.of_below ((Below.refl _ w6).alloc (Nat.le_refl _) _))
        have HBa : Since w0 (w6.alloc (.cells #[.string u, .string v] 26)) := HB6.out.alloc HB6.out.size _
        have c0 := HWa.out.cell
        have f0 := HFa.out.f0
        have f1 := HFa.out.f1
        have q0 := HFa.out.c0
        have q1 := HFa.out.c1
        go_wp2
        refine bodyPost_ret (results_row_tmp (p := 6) (u := 7) (by kernel_rfl) _ _ w.heap.size _ _ rfl (HFa.out.put _ _)) rfl ?_
        exact ⟨rfl, Gr.put HGra.out (Nat.le_refl _) _ _, HBa.put hks.out _ _⟩
      · have F1 : Hid (cmpS d.data.toList (⟨#[48]⟩ : ByteArray).data.toList = 1) := (cmp_is Id Is.zero bD lim_zero).trans (sgn_of_gt (by omega))
        obtain ⟨g, Ig⟩ := Is.exists (Int.gcd N D : Int)
        obtain ⟨s1, Is1⟩ := Is.exists (N % (Int.gcd N D : Int))
        obtain ⟨s2, Is2⟩ := Is.exists (D % (Int.gcd N D : Int))
        have bg : (Int.gcd N D : Int).natAbs < limit := by have := gcd_le_limit (x := N) (y := D) (by omega) (by omega); rw [Int.natAbs_natCast]; exact this
        have F4 : Hid (Unless false <| gcdS n.data.toList d.data.toList = (g.data.toList, 0)) := fun _ => gcd_is In Id Ig (by omega) (by omega) rfl
        obtain ⟨u, Iu⟩ := Is.exists (Rat.divInt N D).num
        obtain ⟨v, Iv⟩ := Is.exists ((Rat.divInt N D).den : Int)
        have F5 : Hid (Unless false <| divS n.data.toList g.data.toList = (u.data.toList, s1.data.toList, 0)) := fun _ => div_is In Ig Iu Is1 (by omega) bg (red_exact (by omega)) (by exact (red_low (by omega)).1) rfl
        have F6 : Hid (Unless false <| divS d.data.toList g.data.toList = (v.data.toList, s2.data.toList, 0)) := fun _ => div_is Id Ig Iv Is2 (by omega) bg (red_exact (by omega)) (by exact (red_low (by omega)).2) rfl
        have HU : Hid (sx (Rat.divInt N D).num = u ∧ sx ((Rat.divInt N D).den : Int) = v) := ⟨(show u = _ from Iu).symm, (show v = _ from Iv).symm⟩
        clear In Id bN bD hD hs Ig Is1 Is2 bg Iu Iv
        rw [HU.out.1, HU.out.2]
        clear HU
        go_enter Tryz.func54, Tryz.ntmps54
        go_wp2_with fail
        clear c0 f0 f1 q0 q1
        generalize w.alloc (.cells #[.string ⟨#[]⟩, .string ⟨#[]⟩] 26) = w00 at HF0 HB0 HW0 HGr0 ⊢
        refine (compareS_any d _ w00).mono ?_
        rw [F1.out]
        rintro e w1 ⟨rfl, hb1⟩
        have HB1 : Since w0 w1 := HB0.next hb1
        have HGr1 : Hid (Gr b w w1) := HGr0.out.trans (Gr.of_below hb1)
        have HW1 : Hid (Work w1 b false) := boxed_below HW0.out hb1 HW0.out.lt
        have HF1 : Hid (FB w1 w.heap.size ⟨#[]⟩ ⟨#[]⟩) := HF0.out.below hb1 HF0.out.lt
        clear hb1 HF0 HB0 HW0 HGr0
        go_wp2_with fail
        refine (wgcd_any b false false n d g g 0 w0 w1 ht HB1 hb0 HW1 (Did.ok _) F4).mono ?_
        rintro e w2 ⟨rfl, HW2, HG2, HB2⟩
        have HGr2 : Hid (Gr b w w2) := HGr1.out.trans HG2.out
        have HF2 : Hid (FB w2 w.heap.size ⟨#[]⟩ ⟨#[]⟩) := HF1.out.kept HG2.out hkb.out
        go_wp2_with fail
        refine (wquot_any b false false n g u s1 u 0 w0 w2 ht HB2 hb0 HW2 (Did.ok _) F5).mono ?_
        rintro e w3 ⟨rfl, HW3, HG3, HB3⟩
        have HGr3 : Hid (Gr b w w3) := HGr2.out.trans HG3.out
        have HF3 : Hid (FB w3 w.heap.size ⟨#[]⟩ ⟨#[]⟩) := HF2.out.kept HG3.out hkb.out
        go_wp2_with fail
        refine (wquot_any b false false d g v s2 v 0 w0 w3 ht HB3 hb0 HW3 (Did.ok _) F6).mono ?_
        rintro e w4 ⟨rfl, HW4, HG4, HB4⟩
        have HGr4 : Hid (Gr b w w4) := HGr3.out.trans HG4.out
        have HF4 : Hid (FB w4 w.heap.size ⟨#[]⟩ ⟨#[]⟩) := HF3.out.kept HG4.out hkb.out
        have HWa : Hid (Work (w4.alloc (.cells #[.string u, .string v] 26)) b false) := HW4.out.alloc _
        have HFa : Hid (FB (w4.alloc (.cells #[.string u, .string v] 26)) w.heap.size ⟨#[]⟩ ⟨#[]⟩) := (Below.heap_alloc _ _ _ HF4.out.lt).trans HF4.out
        have HGra : Hid (Gr b w (w4.alloc (.cells #[.string u, .string v] 26))) := HGr4.out.trans (Gr.of_below ((Below.refl _ w4).alloc (Nat.le_refl _) _))
        have HBa : Since w0 (w4.alloc (.cells #[.string u, .string v] 26)) := HB4.out.alloc HB4.out.size _
        have c0 := HWa.out.cell
        have f0 := HFa.out.f0
        have f1 := HFa.out.f1
        have q0 := HFa.out.c0
        have q1 := HFa.out.c1
        go_wp2
        refine bodyPost_ret (results_row_tmp (p := 6) (u := 7) (by kernel_rfl) _ _ w.heap.size _ _ rfl (HFa.out.put _ _)) rfl ?_
        exact ⟨rfl, Gr.put HGra.out (Nat.le_refl _) _ _, HBa.put hks.out _ _⟩

theorem reduced_any (b : Nat) (bad : Bool) (n d u v : ByteArray) (c : Int) (o : Option Rat) (w0 w : World) (ht : Hid (Tab w0)) (hB : Since w0 w) (hb0 : w0.heap.size ≤ b) (hw : Hid (Work w b bad))
    (hr : Hid (out o = (u, v, c))) (h : Hid (if bad = true then o = none else valid n.data.toList = true ∧ valid d.data.toList = true ∧ o = makeR (num n.data.toList) (num d.data.toList))) :
    Calls Tryz.prog 54 #[.pointer (some ⟨b, 0, none⟩), .string n, .string d] w (RedPost w0 u v c) :=
  (reduced_gr b bad n d u v c o w0 w ht hB hb0 hw hr h).mono fun _ _ h => ⟨h.1, h.2.2⟩

theorem makeS_none {n d : List UInt8} (h : (valid n && valid d) = false) : makeS n d = none := by unfold makeS; rw [h]; rfl
theorem makeS_some {n d : List UInt8} (h1 : valid n = true) (h2 : valid d = true) : makeS n d = makeR (num n) (num d) := by unfold makeS; rw [h1, h2]; rfl

set_option maxHeartbeats 1000000 in
set_option maxRecDepth 100000 in
theorem fmake_any (n d u v : ByteArray) (c : Int) (w : World) (ht : Hid (Tab w)) (hr : Hid (out (makeS n.data.toList d.data.toList) = (u, v, c))) :
    Calls Tryz.prog 31 #[.string n, .string d] w (RedPost w u v c) := by
  have HF0 : Hid (FB (w.alloc (.cells #[.string ⟨#[]⟩, .string ⟨#[]⟩] 26)) w.heap.size ⟨#[]⟩ ⟨#[]⟩) := FB.new w _ _
  have HB0 : Since w (w.alloc (.cells #[.string ⟨#[]⟩, .string ⟨#[]⟩] 26)) := (Below.refl _ w).alloc (Nat.le_refl _) _
  obtain ⟨v1, h1⟩ : ∃ v, valid n.data.toList = v := ⟨_, rfl⟩
  obtain ⟨v2, h2⟩ : ∃ v, valid d.data.toList = v := ⟨_, rfl⟩
  have F1 := Lib.hid h1
  have F2 := Lib.hid h2
  clear h1 h2
  go_enter Tryz.func31, Tryz.ntmps31
  go_wp2_with fail
  generalize w.alloc (.cells #[.string ⟨#[]⟩, .string ⟨#[]⟩] 26) = w00 at HF0 HB0 ⊢
  refine (valid_any n w00).mono ?_
  rw [F1.out]
  rintro e w1 ⟨rfl, hb1⟩
  have HB1 : Since w w1 := HB0.next hb1
  have HF1 : Hid (FB w1 w.heap.size ⟨#[]⟩ ⟨#[]⟩) := HF0.out.below hb1 HF0.out.lt
  clear hb1 HF0 HB0
  cases v1
  · go_wp2_with fail
    have HWa : Hid (Work (w1.alloc (.cells #[.bool true] 71)) w1.heap.size true) := Boxed.new w1 _ _
    have HBa : Since w1 (w1.alloc (.cells #[.bool true] 71)) := (Below.refl _ w1).alloc (Nat.le_refl _) _
    refine (reduced_any w1.heap.size true n d u v c (makeS n.data.toList d.data.toList) w1 _ (HB1.tab ht) HBa (Nat.le_refl _) HWa hr (makeS_none (by rw [F1.out]; rfl))).mono ?_
    rintro e w9 ⟨rfl, hb9⟩
    have HF9 : Hid (FB w9 w.heap.size ⟨#[]⟩ ⟨#[]⟩) := HF1.out.below hb9.out HF1.out.lt
    have HB9 : Since w w9 := HB1.next hb9.out
    have f0 := HF9.out.f0
    have f1 := HF9.out.f1
    have q0 := HF9.out.c0
    have q1 := HF9.out.c1
    go_wp2
    refine bodyPost_ret (results_row_tmp (p := 4) (u := 5) (by kernel_rfl) _ _ w.heap.size _ _ rfl (HF9.out.put _ _)) rfl ?_
    exact ⟨rfl, HB9.put (Nat.le_refl _) _ _⟩
  · go_wp2_with fail
    refine (valid_any d w1).mono ?_
    rw [F2.out]
    rintro e w2 ⟨rfl, hb2⟩
    have HB2 : Since w w2 := HB1.next hb2
    have HF2 : Hid (FB w2 w.heap.size ⟨#[]⟩ ⟨#[]⟩) := HF1.out.below hb2 HF1.out.lt
    clear hb2 HF1 HB1
    cases v2
    · go_wp2_with fail
      have HWa : Hid (Work (w2.alloc (.cells #[.bool true] 71)) w2.heap.size true) := Boxed.new w2 _ _
      have HBa : Since w2 (w2.alloc (.cells #[.bool true] 71)) := (Below.refl _ w2).alloc (Nat.le_refl _) _
      refine (reduced_any w2.heap.size true n d u v c (makeS n.data.toList d.data.toList) w2 _ (HB2.tab ht) HBa (Nat.le_refl _) HWa hr (makeS_none (by rw [F1.out, F2.out]; rfl))).mono ?_
      rintro e w9 ⟨rfl, hb9⟩
      have HF9 : Hid (FB w9 w.heap.size ⟨#[]⟩ ⟨#[]⟩) := HF2.out.below hb9.out HF2.out.lt
      have HB9 : Since w w9 := HB2.next hb9.out
      have f0 := HF9.out.f0
      have f1 := HF9.out.f1
      have q0 := HF9.out.c0
      have q1 := HF9.out.c1
      go_wp2
      refine bodyPost_ret (results_row_tmp (p := 4) (u := 5) (by kernel_rfl) _ _ w.heap.size _ _ rfl (HF9.out.put _ _)) rfl ?_
      exact ⟨rfl, HB9.put (Nat.le_refl _) _ _⟩
    · go_wp2_with fail
      have HWa : Hid (Work (w2.alloc (.cells #[.bool false] 71)) w2.heap.size false) := Boxed.new w2 _ _
      have HBa : Since w2 (w2.alloc (.cells #[.bool false] 71)) := (Below.refl _ w2).alloc (Nat.le_refl _) _
      refine (reduced_any w2.heap.size false n d u v c (makeS n.data.toList d.data.toList) w2 _ (HB2.tab ht) HBa (Nat.le_refl _) HWa hr ⟨F1.out, F2.out, makeS_some F1.out F2.out⟩).mono ?_
      rintro e w9 ⟨rfl, hb9⟩
      have HF9 : Hid (FB w9 w.heap.size ⟨#[]⟩ ⟨#[]⟩) := HF2.out.below hb9.out HF2.out.lt
      have HB9 : Since w w9 := HB2.next hb9.out
      have f0 := HF9.out.f0
      have f1 := HF9.out.f1
      have q0 := HF9.out.c0
      have q1 := HF9.out.c1
      go_wp2
      refine bodyPost_ret (results_row_tmp (p := 4) (u := 5) (by kernel_rfl) _ _ w.heap.size _ _ rfl (HF9.out.put _ _)) rfl ?_
      exact ⟨rfl, HB9.put (Nat.le_refl _) _ _⟩

theorem make_str {N D : Int} (hN : N.natAbs < limit) (hD : D.natAbs < limit) : makeS (str N) (str D) = makeR N D := by
  rw [makeS_some ((valid_str _).2 hN) ((valid_str _).2 hD), num_str, num_str]

set_option maxHeartbeats 1000000 in
set_option maxRecDepth 100000 in
theorem fof_any (N D : Int) (u v : ByteArray) (c : Int) (w : World) (ht : Hid (Tab w)) (hN : Hid (-9223372036854775808 ≤ N ∧ N ≤ 9223372036854775807)) (hD : Hid (-9223372036854775808 ≤ D ∧ D ≤ 9223372036854775807)) (hr : Hid (out (makeR N D) = (u, v, c))) :
    Calls Tryz.prog 43 #[.int .i64 N, .int .i64 D] w (RedPost w u v c) := by
  have HF0 : Hid (FB (w.alloc (.cells #[.string ⟨#[]⟩, .string ⟨#[]⟩] 26)) w.heap.size ⟨#[]⟩ ⟨#[]⟩) := FB.new w _ _
  have HB0 : Since w (w.alloc (.cells #[.string ⟨#[]⟩, .string ⟨#[]⟩] 26)) := (Below.refl _ w).alloc (Nat.le_refl _) _
  obtain ⟨n, In⟩ := Is.exists N
  obtain ⟨d, Id⟩ := Is.exists D
  have HN : Hid (Is n N ∧ -9223372036854775808 ≤ N ∧ N ≤ 9223372036854775807) := ⟨In, hN.out⟩
  have HD : Hid (Is d D ∧ -9223372036854775808 ≤ D ∧ D ≤ 9223372036854775807) := ⟨Id, hD.out⟩
  have HR : Hid (out (makeS n.data.toList d.data.toList) = (u, v, c)) := by
    show out _ = _
    rw [In.list, Id.list, make_str (i64_limit hN.out.1 hN.out.2) (i64_limit hD.out.1 hD.out.2)]; exact hr.out
  clear In Id hN hD hr
  go_enter Tryz.func43, Tryz.ntmps43
  go_wp2_with fail
  generalize w.alloc (.cells #[.string ⟨#[]⟩, .string ⟨#[]⟩] 26) = w00 at HF0 HB0 ⊢
  refine (from_to (w0 := w00) n (HB0.tab ht) (Since.refl w00) HN).mono ?_
  rintro e w1 ⟨rfl, hb1⟩
  have HB1 : Since w w1 := HB0.next hb1.out
  have HF1 : Hid (FB w1 w.heap.size ⟨#[]⟩ ⟨#[]⟩) := HF0.out.below hb1.out HF0.out.lt
  clear hb1 HF0 HB0
  go_wp2_with fail
  refine (from_to (w0 := w1) d (HB1.tab ht) (Since.refl w1) HD).mono ?_
  rintro e w2 ⟨rfl, hb2⟩
  have HB2 : Since w w2 := HB1.next hb2.out
  have HF2 : Hid (FB w2 w.heap.size ⟨#[]⟩ ⟨#[]⟩) := HF1.out.below hb2.out HF1.out.lt
  clear hb2 HF1 HB1
  go_wp2_with fail
  refine (fmake_any n d u v c w2 (HB2.tab ht) HR).mono ?_
  rintro e w9 ⟨rfl, hb9⟩
  have HF9 : Hid (FB w9 w.heap.size ⟨#[]⟩ ⟨#[]⟩) := HF2.out.below hb9.out HF2.out.lt
  have HB9 : Since w w9 := HB2.next hb9.out
  have f0 := HF9.out.f0
  have f1 := HF9.out.f1
  have q0 := HF9.out.c0
  have q1 := HF9.out.c1
  go_wp2
  refine bodyPost_ret (results_row_tmp (p := 4) (u := 5) (by kernel_rfl) _ _ w.heap.size _ _ rfl (HF9.out.put _ _)) rfl ?_
  exact ⟨rfl, HB9.put (Nat.le_refl _) _ _⟩

end Go.Proofs.Tryz
