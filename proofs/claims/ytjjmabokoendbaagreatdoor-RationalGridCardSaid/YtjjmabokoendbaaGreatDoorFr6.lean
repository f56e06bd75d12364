/- Down and Up of package rational. -/
import Derived.Test.YtjjmabokoendbaaGreatDoorFr3
import Derived.Test.YtjjmabokoendbaaGreatDoorTenP
namespace Go.Proofs.Dt
theorem roundO_out {up : Bool} {o : Option Rat} {k : Int} (h : k < 0 ∨ 30 < k) : roundO up o k = none := by
  cases o with
  | none => rfl
  | some p => exact if_neg (by omega)
theorem roundO_none {up : Bool} {k : Int} : roundO up none k = none := rfl
theorem roundO_in {up : Bool} {p : Rat} {k : Nat} (h : k ≤ 30) : roundO up (some p) (k : Int) = roundR up p k := by
  show (if 0 ≤ (k : Int) ∧ (k : Int) ≤ 30 then roundR up p (k : Int).toNat else none) = _
  rw [if_pos (by omega), Int.toNat_natCast]
end Go.Proofs.Dt
namespace Go.Proofs.Tryz
open Go.RowKit Go.Shelf Go.Proofs.Dt

theorem repeat_zeros (c : Nat) (W : World) (hc : c ≤ 1000) : Calls Tryz.prog 85 #[.string ⟨#[48]⟩, .int .i64 (c : Int)] W fun e w' => e = .returned (.string ⟨(List.replicate c (48 : UInt8)).toArray⟩) ∧ Below W.heap.size W w' := by
  refine (Tryz.strings_Repeat ⟨#[48]⟩ c W (by omega) (by show 1 * c ≤ _; omega)).mono ?_
  rintro e w' ⟨rfl, hb⟩
  exact ⟨by rw [show (⟨#[48]⟩ : ByteArray).data.toList = [48] from rfl, zeros_repeat], hb⟩

/-- The blocks of rounding: the fraction, the result, the calculation. -/
structure RoSt (w W : World) (x y : ByteArray) (bad : Bool) : Prop where
  a : FB W w.heap.size x y
  r : FB W (w.heap.size + 1) ⟨#[]⟩ ⟨#[]⟩
  k : Work W (w.heap.size + 1 + 1) bad
  s : Since w W
section
variable {w W W' : World} {x y : ByteArray} {bad bad' : Bool}
theorem RoSt.start (w : World) (x y : ByteArray) (bad : Bool) : RoSt w (((w.alloc (.cells #[.string x, .string y] 26)).alloc (.cells #[.string ⟨#[]⟩, .string ⟨#[]⟩] 26)).alloc (.cells #[.bool bad] 71)) x y bad := by
  have a1 := FB.new w x y
  have a2 := (Below.heap_alloc (w.alloc (.cells #[.string x, .string y] 26)) (.cells #[.string ⟨#[]⟩, .string ⟨#[]⟩] 26) _ a1.lt).trans a1
  have b2 := FB.new (w.alloc (.cells #[.string x, .string y] 26)) ⟨#[]⟩ ⟨#[]⟩
  rw [World.size_alloc] at b2
  have k := Boxed.new ((w.alloc (.cells #[.string x, .string y] 26)).alloc (.cells #[.string ⟨#[]⟩, .string ⟨#[]⟩] 26)) 71 (.bool bad)
  rw [World.size_alloc, World.size_alloc] at k
  exact ⟨(Below.heap_alloc _ _ _ (FB.lt a2)).trans a2, (Below.heap_alloc _ _ _ (FB.lt b2)).trans b2, k, (((Below.refl _ w).alloc (Nat.le_refl _) _).alloc (by simp) _).alloc (by simp; omega) _⟩
theorem RoSt.alloc (h : RoSt w W x y bad) (o : Obj) : RoSt w (W.alloc o) x y bad :=
  ⟨(Below.heap_alloc _ _ _ h.a.lt).trans h.a, (Below.heap_alloc _ _ _ h.r.lt).trans h.r, h.k.alloc o, h.s.out.alloc h.s.out.size _⟩
theorem RoSt.next (h : RoSt w W x y bad) (g : Hid (Gr (w.heap.size + 1 + 1) W W')) (k : Hid (Work W' (w.heap.size + 1 + 1) bad')) : RoSt w W' x y bad' :=
  ⟨h.a.kept g.out (by omega), h.r.kept g.out (by omega), k.out, Gr.since h.s g.out (by omega)⟩
theorem RoSt.after (h : RoSt w W x y bad) (g : Below W.heap.size W W') : RoSt w W' x y bad :=
  ⟨h.a.below g h.a.lt, h.r.below g h.r.lt, boxed_below h.k g h.k.lt, h.s.next g⟩
theorem RoSt.set (h : RoSt w W x y bad) (v : Bool) : RoSt w (W.setCell ⟨w.heap.size + 1 + 1, 0, none⟩ (.bool v)) x y v :=
  h.next (W' := W.setCell ⟨w.heap.size + 1 + 1, 0, none⟩ (.bool v)) (grownBy_setCell' _ _ _) (h.k.set _)
end
theorem roRow_cells (W : World) (x y : ByteArray) : ∀ j, j < 1 → (W.alloc (.cells #[.string x, .string y] 26)).cell? ⟨W.heap.size, j * 2, none⟩ = some (.string ((fun _ => x) j)) ∧ (W.alloc (.cells #[.string x, .string y] 26)).cell? ⟨W.heap.size, j * 2 + 1, none⟩ = some (.string ((fun _ => y) j)) := by
  intro j hj
  rw [World.cell?_alloc_at _ _ _ _ rfl, World.cell?_alloc_at _ _ _ _ rfl]
  match j, hj with
  | 0, _ => exact ⟨rfl, rfl⟩

set_option maxHeartbeats 4000000 in
set_option maxRecDepth 100000 in
theorem round_any (x y u v : ByteArray) (k : Int) (up : Bool) (c : Int) (w : World) (ht : Hid (Tab w)) (hr : Hid (out (roundO up (frac x.data.toList y.data.toList) k) = (u, v, c))) :
    Calls Tryz.prog 55 #[.agg #[.string x, .string y], .int .i64 k, .bool up] w (RedPost w u v c) := by
  obtain ⟨bad0, hb0⟩ : ∃ b, b = decide (k < 0 ∨ 30 < k) := ⟨_, rfl⟩
  have S1 := Lib.hid ((RoSt.start w x y bad0).alloc (.cells #[.string x, .string y] 26))
  have HC := Lib.hid (roRow_cells (((w.alloc (.cells #[.string x, .string y] 26)).alloc (.cells #[.string ⟨#[]⟩, .string ⟨#[]⟩] 26)).alloc (.cells #[.bool bad0] 71)) x y)
  have hsz : (((w.alloc (.cells #[.string x, .string y] 26)).alloc (.cells #[.string ⟨#[]⟩, .string ⟨#[]⟩] 26)).alloc (.cells #[.bool bad0] 71)).heap.size = w.heap.size + 1 + 1 + 1 := by simp
  rw [hsz] at HC
  have hsz2 : Hid (w.heap.size + 1 + 1 + 1 ≠ w.heap.size + 1 + 1 ∧ w.heap.size + 1 + 1 + 1 < ((((w.alloc (.cells #[.string x, .string y] 26)).alloc (.cells #[.string ⟨#[]⟩, .string ⟨#[]⟩] 26)).alloc (.cells #[.bool bad0] 71)).alloc (.cells #[.string x, .string y] 26)).heap.size) := by
    refine ⟨by omega, ?_⟩
    rw [World.size_alloc, hsz]; omega
  clear hsz
  have a0 := S1.out.a.c0; have a1 := S1.out.a.c1
  by_cases h0 : k < 0
  · obtain rfl : bad0 = true := by rw [hb0]; exact decide_eq_true (Or.inl h0)
    have e : roundO up (frac x.data.toList y.data.toList) k = none := roundO_out (Or.inl h0)
    rw [e] at hr
    cases hr.out
    clear e hb0 hr
    go_enter Tryz.func55, Tryz.ntmps55
    go_wp2_with fail
    clear a0 a1
    generalize (((w.alloc (.cells #[.string x, .string y] 26)).alloc (.cells #[.string ⟨#[]⟩, .string ⟨#[]⟩] 26)).alloc (.cells #[.bool true] 71)).alloc (.cells #[.string x, .string y] 26) = W1 at S1 HC hsz2 ⊢
    refine (check_any (w.heap.size + 1 + 1) (w.heap.size + 1 + 1 + 1) 1 true (fun _ => x) (fun _ => y) w W1 ht S1.out.s (by omega) S1.out.k hsz2 (by omega) HC).mono ?_
    rintro e W2 ⟨rfl, HW2, HG2, HB2⟩
    have S2 := Lib.hid (S1.out.next HG2 HW2)
    clear S1 HC hsz2 HG2 HB2 HW2
    have S2 : Hid (RoSt w W2 x y true) := S2
    have c0 := S2.out.k.cell
    have f0 := S2.out.r.f0; have f1 := S2.out.r.f1
    have q0 := S2.out.r.c0; have q1 := S2.out.r.c1
    go_wp2
    refine bodyPost_ret (results_row_tmp (p := 6) (u := 7) (by kernel_rfl) _ _ (w.heap.size + 1) _ _ rfl (S2.out.r.put _ _)) rfl ?_
    exact ⟨rfl, S2.out.s.put (by omega) _ _⟩
  · by_cases h1 : 30 < k
    · obtain rfl : bad0 = true := by rw [hb0]; exact decide_eq_true (Or.inr h1)
      have e : roundO up (frac x.data.toList y.data.toList) k = none := roundO_out (Or.inr h1)
      rw [e] at hr
      cases hr.out
      clear e hb0 hr
      go_enter Tryz.func55, Tryz.ntmps55
      go_wp2_with fail
      clear a0 a1
      generalize (((w.alloc (.cells #[.string x, .string y] 26)).alloc (.cells #[.string ⟨#[]⟩, .string ⟨#[]⟩] 26)).alloc (.cells #[.bool true] 71)).alloc (.cells #[.string x, .string y] 26) = W1 at S1 HC hsz2 ⊢
      refine (check_any (w.heap.size + 1 + 1) (w.heap.size + 1 + 1 + 1) 1 true (fun _ => x) (fun _ => y) w W1 ht S1.out.s (by omega) S1.out.k hsz2 (by omega) HC).mono ?_
      rintro e W2 ⟨rfl, HW2, HG2, HB2⟩
      have S2 := Lib.hid (S1.out.next HG2 HW2)
      clear S1 HC hsz2 HG2 HB2 HW2
      have S2 : Hid (RoSt w W2 x y true) := S2
      have c0 := S2.out.k.cell
      have f0 := S2.out.r.f0; have f1 := S2.out.r.f1
      have q0 := S2.out.r.c0; have q1 := S2.out.r.c1
      go_wp2
      refine bodyPost_ret (results_row_tmp (p := 6) (u := 7) (by kernel_rfl) _ _ (w.heap.size + 1) _ _ rfl (S2.out.r.put _ _)) rfl ?_
      exact ⟨rfl, S2.out.s.put (by omega) _ _⟩
    · obtain rfl : bad0 = false := by rw [hb0]; exact decide_eq_false (by omega)
      clear hb0
      obtain ⟨j, rfl⟩ := Int.eq_ofNat_of_zero_le (show 0 ≤ k by omega)
      have hj : j ≤ 30 := by omega
      go_enter Tryz.func55, Tryz.ntmps55
      go_wp2_with fail
      clear a0 a1
      generalize (((w.alloc (.cells #[.string x, .string y] 26)).alloc (.cells #[.string ⟨#[]⟩, .string ⟨#[]⟩] 26)).alloc (.cells #[.bool false] 71)).alloc (.cells #[.string x, .string y] 26) = W1 at S1 HC hsz2 ⊢
      refine (check_any (w.heap.size + 1 + 1) (w.heap.size + 1 + 1 + 1) 1 false (fun _ => x) (fun _ => y) w W1 ht S1.out.s (by omega) S1.out.k hsz2 (by omega) HC).mono ?_
      rintro e W2 ⟨rfl, HW2, HG2, HB2⟩
      have S2 := Lib.hid (S1.out.next HG2 HW2)
      clear S1 HC hsz2 HG2 HB2 HW2
      cases hv : validR x.data.toList y.data.toList
      · have S3 : Hid (RoSt w W2 x y true) := by have h := S2.out; rw [show chk false (fun _ => x) (fun _ => y) 1 = !validR x.data.toList y.data.toList from rfl, hv] at h; exact h
        rw [frac_no hv, roundO_none] at hr
        cases hr.out
        clear S2 hr hv
        have c0 := S3.out.k.cell
        have f0 := S3.out.r.f0; have f1 := S3.out.r.f1
        have q0 := S3.out.r.c0; have q1 := S3.out.r.c1
        go_wp2
        refine bodyPost_ret (results_row_tmp (p := 6) (u := 7) (by kernel_rfl) _ _ (w.heap.size + 1) _ _ rfl (S3.out.r.put _ _)) rfl ?_
        exact ⟨rfl, S3.out.s.put (by omega) _ _⟩
      · have S3 : Hid (RoSt w W2 x y false) := by have h := S2.out; rw [show chk false (fun _ => x) (fun _ => y) 1 = !validR x.data.toList y.data.toList from rfl, hv] at h; exact h
        obtain ⟨p, hp, px, py, pn, pd⟩ := frac_yes hv
        rw [hp, roundO_in hj] at hr
        have hpp := p.den_pos
        have Ix : Is x p.num := Is.of_list px
        have Iy : Is y (p.den : Int) := Is.of_list py
        obtain ⟨t, ht'⟩ : ∃ t, t = ten j := ⟨_, rfl⟩
        have It : Is t ((10 ^ j : Nat) : Int) := by rw [ht']; exact ten_is j
        obtain ⟨zs, hzs⟩ : ∃ z : ByteArray, z = ⟨(List.replicate j (48 : UInt8)).toArray⟩ := ⟨_, rfl⟩
        have hzsize : zs.size ≤ 1000 := by rw [hzs]; show (List.replicate j (48 : UInt8)).toArray.size ≤ 1000; simp; omega
        have hone : (⟨#[49]⟩ : ByteArray) ++ zs = t := by rw [hzs, one_zeros, ht']
        have HRep : Hid (∀ W, Calls Tryz.prog 85 #[.string ⟨#[48]⟩, .int .i64 (j : Int)] W fun e w' => e = .returned (.string zs) ∧ Below W.heap.size W w') := fun W => by rw [hzs]; exact repeat_zeros j W (by omega)
        have lt : (((10 ^ j : Nat) : Int)).natAbs < limit := ten_lim (by omega)
        have h10 := ten_pos j
        have HM := Lib.hid (show mulS x.data.toList t.data.toList = res (p.num * (10 ^ j : Nat)) by rw [Ix.list, It.list]; exact mulS_res pn lt)
        unfold roundR at hr
        clear ht' hzs px py hv S2 hp h0 h1
        have c0 := S3.out.k.cell
        go_wp2_with fail
        clear c0
        refine (HRep.out W2).mono ?_
        rintro e W3 ⟨rfl, hb3⟩
        have S4 := Lib.hid (S3.out.after hb3)
        clear hb3 S3 HRep
        have a0 := S4.out.a.c0; have a1 := S4.out.a.c1
        go_wp2_with fail
        clear a0 a1
        cases ho : ok (p.num * (10 ^ j : Nat))
        · rw [ho] at hr
          cases hr.out
          have F1 : Hid (Unless false (mulS x.data.toList t.data.toList = ((⟨#[]⟩ : ByteArray).data.toList, 30))) := fun _ => HM.out.trans (no_res ho)
          clear hr HM Ix Iy It pn pd lt h10 hpp
          refine (wmul_any (w.heap.size + 1 + 1) false true x t ⟨#[]⟩ ⟨#[]⟩ 30 w W3 ht S4.out.s (by omega) S4.out.k (Did.no _) F1).mono ?_
          rintro e W4 ⟨rfl, HW4, HG4, HB4⟩
          have S5 := Lib.hid (S4.out.next HG4 HW4)
          have c0 := S5.out.k.cell
          have f0 := S5.out.r.f0; have f1 := S5.out.r.f1
          have q0 := S5.out.r.c0; have q1 := S5.out.r.c1
          go_wp2
          refine bodyPost_ret (results_row_tmp (p := 6) (u := 7) (by kernel_rfl) _ _ (w.heap.size + 1) _ _ rfl (S5.out.r.put _ _)) rfl ?_
          exact ⟨rfl, S5.out.s.put (by omega) _ _⟩
        · rw [ho, if_pos rfl] at hr
          have bN := ok_lt ho
          obtain ⟨n, In⟩ := Is.exists (p.num * (10 ^ j : Nat))
          have F1 : Hid (Unless false (mulS x.data.toList t.data.toList = (n.data.toList, 0))) := fun _ => by rw [HM.out, ok_res ho, In.list]
          revert In bN hr
          generalize p.num * (10 ^ j : Nat) = N
          intro hr bN In
          obtain ⟨q, Iq⟩ := Is.exists (N / p.den)
          obtain ⟨s, Is'⟩ := Is.exists (N % p.den)
          have F2 : Hid (divS n.data.toList y.data.toList = (q.data.toList, s.data.toList, 0)) := div_is In Iy Iq Is' bN (den_lim pd) (by omega) rfl rfl
          have bq : (N / p.den).natAbs < limit := by have := Int.natAbs_ediv_le_natAbs N p.den; omega
          have bq2 := quotR_le (up := up) (n := N) (d := p.den) (by omega)
          refine (wmul_any (w.heap.size + 1 + 1) false false x t n n 0 w W3 ht S4.out.s (by omega) S4.out.k (Did.ok _) F1).mono ?_
          rintro e W4 ⟨rfl, HW4, HG4, HB4⟩
          have S5 := Lib.hid (S4.out.next HG4 HW4)
          clear S4 HW4 HG4 HB4 HM
          have a0 := S5.out.a.c0; have a1 := S5.out.a.c1; have c0 := S5.out.k.cell
          go_wp2_with fail
          clear a0 a1 c0
          refine (div_to q s 0 (S5.out.s.tab ht) (Since.refl W4) F2.out).mono ?_
          rintro e W5 ⟨rfl, hb5⟩
          have S6 := Lib.hid (S5.out.after hb5.out)
          have S7 := Lib.hid (S6.out.set false)
          have c0 := S6.out.k.cell
          have f0 := S6.out.k.frozen
          clear hb5 S5
          cases up
          · have HTold : Hid (if false = true then makeR (quotR false N p.den) (10 ^ j : Nat) = none else valid q.data.toList = true ∧ valid t.data.toList = true ∧ makeR (quotR false N p.den) (10 ^ j : Nat) = makeR (num q.data.toList) (num t.data.toList)) := ⟨valid_is Iq bq, valid_is It lt, by rw [Iq.list, It.list, num_str, num_str]; rfl⟩
            clear In Iq Is' It Ix Iy bN bq bq2 lt h10 hpp pn pd F1 F2
            go_wp2_with fail
            refine (reduced_gr (w.heap.size + 1 + 1) false q t u v c _ w (W5.setCell ⟨w.heap.size + 1 + 1, 0, none⟩ (.bool false)) ht S7.out.s (by omega) S7.out.k hr HTold).mono ?_
            rintro e W9 ⟨rfl, HG9, HB9⟩
            have HF9 : Hid (FB W9 (w.heap.size + 1) ⟨#[]⟩ ⟨#[]⟩) := S7.out.r.kept HG9.out (by omega)
            have f0 := HF9.out.f0; have f1 := HF9.out.f1
            have q0 := HF9.out.c0; have q1 := HF9.out.c1
            go_wp2
            refine bodyPost_ret (results_row_tmp (p := 6) (u := 7) (by kernel_rfl) _ _ (w.heap.size + 1) _ _ rfl (HF9.out.put _ _)) rfl ?_
            exact ⟨rfl, HB9.put (by omega) _ _⟩
          · by_cases hs0 : N % p.den = 0
            · obtain rfl : s = ⟨#[48]⟩ := (Is.inj Is' Is.zero).2 hs0
              have HTold : Hid (if false = true then makeR (quotR true N p.den) (10 ^ j : Nat) = none else valid q.data.toList = true ∧ valid t.data.toList = true ∧ makeR (quotR true N p.den) (10 ^ j : Nat) = makeR (num q.data.toList) (num t.data.toList)) := ⟨valid_is Iq bq, valid_is It lt, by rw [Iq.list, It.list, num_str, num_str]; unfold quotR; rw [decide_eq_false (by omega)]; rfl⟩
              clear In Iq Is' It Ix Iy bN bq bq2 lt h10 hpp pn pd F1 F2 hs0
              go_wp2_with fail
              refine (reduced_gr (w.heap.size + 1 + 1) false q t u v c _ w (W5.setCell ⟨w.heap.size + 1 + 1, 0, none⟩ (.bool false)) ht S7.out.s (by omega) S7.out.k hr HTold).mono ?_
              rintro e W9 ⟨rfl, HG9, HB9⟩
              have HF9 : Hid (FB W9 (w.heap.size + 1) ⟨#[]⟩ ⟨#[]⟩) := S7.out.r.kept HG9.out (by omega)
              have f0 := HF9.out.f0; have f1 := HF9.out.f1
              have q0 := HF9.out.c0; have q1 := HF9.out.c1
              go_wp2
              refine bodyPost_ret (results_row_tmp (p := 6) (u := 7) (by kernel_rfl) _ _ (w.heap.size + 1) _ _ rfl (HF9.out.put _ _)) rfl ?_
              exact ⟨rfl, HB9.put (by omega) _ _⟩
            · have hsz := zero_ne Is' hs0
              have hq1 : quotR true N p.den = N / p.den + 1 := by unfold quotR; rw [decide_eq_true hs0]; rfl
              rw [hq1] at bq2 hr
              obtain ⟨q', Iq'⟩ := Is.exists (N / p.den + 1)
              have F3 : Hid (Unless false (addS q.data.toList (⟨#[49]⟩ : ByteArray).data.toList = (q'.data.toList, 0))) := fun _ => add_is Iq Is.one Iq' bq (small_limit (by decide)) (by omega) rfl
              have HTold : Hid (if false = true then makeR (N / p.den + 1) (10 ^ j : Nat) = none else valid q'.data.toList = true ∧ valid t.data.toList = true ∧ makeR (N / p.den + 1) (10 ^ j : Nat) = makeR (num q'.data.toList) (num t.data.toList)) := ⟨valid_is Iq' (by omega), valid_is It lt, by rw [Iq'.list, It.list, num_str, num_str]⟩
              clear In Iq Iq' Is' It Ix Iy bN bq bq2 lt h10 hpp pn pd F1 F2 hs0 hq1
              go_wp2_with fail
              refine (wadd_any (w.heap.size + 1 + 1) false false q _ q' q' 0 w (W5.setCell ⟨w.heap.size + 1 + 1, 0, none⟩ (.bool false)) ht S7.out.s (by omega) S7.out.k (Did.ok _) F3).mono ?_
              rintro e W6 ⟨rfl, HW6, HG6, HB6⟩
              have S8 := Lib.hid (S7.out.next HG6 HW6)
              go_wp2_with fail
              refine (reduced_gr (w.heap.size + 1 + 1) false q' t u v c _ w W6 ht S8.out.s (by omega) S8.out.k hr HTold).mono ?_
              rintro e W9 ⟨rfl, HG9, HB9⟩
              have HF9 : Hid (FB W9 (w.heap.size + 1) ⟨#[]⟩ ⟨#[]⟩) := S8.out.r.kept HG9.out (by omega)
              have f0 := HF9.out.f0; have f1 := HF9.out.f1
              have q0 := HF9.out.c0; have q1 := HF9.out.c1
              go_wp2
              refine bodyPost_ret (results_row_tmp (p := 6) (u := 7) (by kernel_rfl) _ _ (w.heap.size + 1) _ _ rfl (HF9.out.put _ _)) rfl ?_
              exact ⟨rfl, HB9.put (by omega) _ _⟩


set_option maxHeartbeats 1000000 in
set_option maxRecDepth 100000 in
theorem fdown_any (x y u v : ByteArray) (k : Int) (c : Int) (w : World) (ht : Hid (Tab w)) (hr : Hid (out (roundO false (frac x.data.toList y.data.toList) k) = (u, v, c))) :
    Calls Tryz.prog 20 #[.agg #[.string x, .string y], .int .i64 k] w (RedPost w u v c) := by
  have HA : Hid (RoSt w _ x y false) := RoSt.start w x y false
  have HF : Hid (FB ((w.alloc (.cells #[.string x, .string y] 26)).alloc (.cells #[.string ⟨#[]⟩, .string ⟨#[]⟩] 26)) (w.heap.size + 1) ⟨#[]⟩ ⟨#[]⟩ ∧ FB ((w.alloc (.cells #[.string x, .string y] 26)).alloc (.cells #[.string ⟨#[]⟩, .string ⟨#[]⟩] 26)) w.heap.size x y ∧ Since w ((w.alloc (.cells #[.string x, .string y] 26)).alloc (.cells #[.string ⟨#[]⟩, .string ⟨#[]⟩] 26))) := by
    have a1 := FB.new w x y
    have a2 := (Below.heap_alloc (w.alloc (.cells #[.string x, .string y] 26)) (.cells #[.string ⟨#[]⟩, .string ⟨#[]⟩] 26) _ a1.lt).trans a1
    have b2 := FB.new (w.alloc (.cells #[.string x, .string y] 26)) ⟨#[]⟩ ⟨#[]⟩
    rw [World.size_alloc] at b2
    exact ⟨b2, a2, ((Below.refl _ w).alloc (Nat.le_refl _) _).alloc (by simp) _⟩
  clear HA
  have a0 := HF.out.2.1.c0; have a1 := HF.out.2.1.c1
  go_enter Tryz.func20, Tryz.ntmps20
  go_wp2_with fail
  clear a0 a1
  generalize (w.alloc (.cells #[.string x, .string y] 26)).alloc (.cells #[.string ⟨#[]⟩, .string ⟨#[]⟩] 26) = W1 at HF ⊢
  refine (round_any x y u v k false c W1 (HF.out.2.2.tab ht) hr).mono ?_
  rintro e W2 ⟨rfl, hb2⟩
  have HF2 : Hid (FB W2 (w.heap.size + 1) ⟨#[]⟩ ⟨#[]⟩) := HF.out.1.below hb2.out HF.out.1.lt
  have HB2 : Since w W2 := HF.out.2.2.next hb2.out
  have f0 := HF2.out.f0; have f1 := HF2.out.f1
  have q0 := HF2.out.c0; have q1 := HF2.out.c1
  go_wp2
  refine bodyPost_ret (results_row_tmp (p := 4) (u := 5) (by kernel_rfl) _ _ (w.heap.size + 1) _ _ rfl (HF2.out.put _ _)) rfl ?_
  exact ⟨rfl, HB2.put (by omega) _ _⟩

set_option maxHeartbeats 1000000 in
set_option maxRecDepth 100000 in
theorem fup_any (x y u v : ByteArray) (k : Int) (c : Int) (w : World) (ht : Hid (Tab w)) (hr : Hid (out (roundO true (frac x.data.toList y.data.toList) k) = (u, v, c))) :
    Calls Tryz.prog 21 #[.agg #[.string x, .string y], .int .i64 k] w (RedPost w u v c) := by
  have HA : Hid (RoSt w _ x y false) := RoSt.start w x y false
  have HF : Hid (FB ((w.alloc (.cells #[.string x, .string y] 26)).alloc (.cells #[.string ⟨#[]⟩, .string ⟨#[]⟩] 26)) (w.heap.size + 1) ⟨#[]⟩ ⟨#[]⟩ ∧ FB ((w.alloc (.cells #[.string x, .string y] 26)).alloc (.cells #[.string ⟨#[]⟩, .string ⟨#[]⟩] 26)) w.heap.size x y ∧ Since w ((w.alloc (.cells #[.string x, .string y] 26)).alloc (.cells #[.string ⟨#[]⟩, .string ⟨#[]⟩] 26))) := by
    have a1 := FB.new w x y
    have a2 := (Below.heap_alloc (w.alloc (.cells #[.string x, .string y] 26)) (.cells #[.string ⟨#[]⟩, .string ⟨#[]⟩] 26) _ a1.lt).trans a1
    have b2 := FB.new (w.alloc (.cells #[.string x, .string y] 26)) ⟨#[]⟩ ⟨#[]⟩
    rw [World.size_alloc] at b2
    exact ⟨b2, a2, ((Below.refl _ w).alloc (Nat.le_refl _) _).alloc (by simp) _⟩
  clear HA
  have a0 := HF.out.2.1.c0; have a1 := HF.out.2.1.c1
  go_enter Tryz.func21, Tryz.ntmps21
  go_wp2_with fail
  clear a0 a1
  generalize (w.alloc (.cells #[.string x, .string y] 26)).alloc (.cells #[.string ⟨#[]⟩, .string ⟨#[]⟩] 26) = W1 at HF ⊢
  refine (round_any x y u v k true c W1 (HF.out.2.2.tab ht) hr).mono ?_
  rintro e W2 ⟨rfl, hb2⟩
  have HF2 : Hid (FB W2 (w.heap.size + 1) ⟨#[]⟩ ⟨#[]⟩) := HF.out.1.below hb2.out HF.out.1.lt
  have HB2 : Since w W2 := HF.out.2.2.next hb2.out
  have f0 := HF2.out.f0; have f1 := HF2.out.f1
  have q0 := HF2.out.c0; have q1 := HF2.out.c1
  go_wp2
  refine bodyPost_ret (results_row_tmp (p := 4) (u := 5) (by kernel_rfl) _ _ (w.heap.size + 1) _ _ rfl (HF2.out.put _ _)) rfl ?_
  exact ⟨rfl, HB2.put (by omega) _ _⟩

end Go.Proofs.Tryz
