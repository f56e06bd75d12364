/- Compare of package rational: by whole parts, and then by what is left, upside down. -/
import Derived.Test.YtjjmabokoendbaaGreatDoorFr4
import Derived.WalkMore
import Derived.ScopeJumps
import Derived.BigRegion
namespace Go.Proofs.Dt
/-- What the comparison keeps: the sign of the difference is the answer. -/
structure CNum (x y x' y' : ByteArray) (n d m e sg res : Int) : Prop where
  hn : Is x n
  hd : Is y d
  hm : Is x' m
  he : Is y' e
  ln : n.natAbs < limit
  ld : d.natAbs < limit
  lm : m.natAbs < limit
  le : e.natAbs < limit
  pd : 0 < d
  pe : 0 < e
  hres : res = sg * sgn (n * e - m * d)
theorem CNum.whole {x y x' y' : ByteArray} {n d m e sg res : Int} (h : CNum x y x' y' n d m e sg res) (hc : sgn (n / d - m / e) ≠ 0) : res = sg * sgn (n / d - m / e) := by
  have hne : n / d ≠ m / e := fun e1 => hc (by rw [e1]; exact sgn_of_eq (by omega))
  rw [h.hres, cmp_whole h.pd h.pe hne]
theorem sgn_zero {x : Int} (h : sgn x = 0) : x = 0 := by
  unfold sgn at h
  split at h
  · cases h
  · split at h
    · cases h
    · omega
theorem sgn_in (x : Int) : -1 ≤ sgn x ∧ sgn x ≤ 1 := by
  unfold sgn
  split
  · omega
  · split <;> omega
theorem CNum.same {x y x' y' : ByteArray} {n d m e sg res : Int} (h : CNum x y x' y' n d m e sg res) (hc : sgn (n / d - m / e) = 0) : res = sg * sgn (n % d * e - m % e * d) := by
  have he : n / d = m / e := by have := sgn_zero hc; omega
  rw [h.hres, cmp_rest he]
theorem CNum.left {x y x' y' : ByteArray} {n d m e sg res : Int} (h : CNum x y x' y' n d m e sg res) (hc : sgn (n / d - m / e) = 0) (hr : n % d = 0) (hs : m % e ≠ 0) : res = -sg := by
  have h1 := Int.emod_nonneg m (show e ≠ 0 by have := h.pe; omega)
  have h2 := h.pd
  have h3 : 0 < m % e * d := Int.mul_pos (by omega) h2
  rw [h.same hc, hr, sgn_of_lt (by omega)]
  omega
theorem CNum.right {x y x' y' : ByteArray} {n d m e sg res : Int} (h : CNum x y x' y' n d m e sg res) (hc : sgn (n / d - m / e) = 0) (hr : n % d ≠ 0) (hs : m % e = 0) : res = sg := by
  have h1 := Int.emod_nonneg n (show d ≠ 0 by have := h.pd; omega)
  have h2 := h.pe
  have h3 : 0 < n % d * e := Int.mul_pos (by omega) h2
  rw [h.same hc, hs, sgn_of_gt (by omega)]
  omega
theorem CNum.both {x y x' y' : ByteArray} {n d m e sg res : Int} (h : CNum x y x' y' n d m e sg res) (hc : sgn (n / d - m / e) = 0) (hr : n % d = 0) (hs : m % e = 0) : res = 0 := by
  rw [h.same hc, hr, hs, sgn_of_eq (by omega)]; omega
theorem CNum.flip {x y x' y' r s : ByteArray} {n d m e sg res : Int} (h : CNum x y x' y' n d m e sg res) (hc : sgn (n / d - m / e) = 0) (ir : Is r (n % d)) (is : Is s (m % e)) (hr : n % d ≠ 0) (hs : m % e ≠ 0) : CNum y r y' s d (n % d) e (m % e) (-sg) res ∧ (n % d).toNat < d.toNat := by
  have h1 := Int.emod_nonneg n (show d ≠ 0 by have := h.pd; omega)
  have h2 := Int.emod_lt_of_pos n h.pd
  have h3 := Int.emod_nonneg m (show e ≠ 0 by have := h.pe; omega)
  have h4 := Int.emod_lt_of_pos m h.pe
  have h5 := h.ld
  have h6 := h.le
  have h7 := h.pd
  have h8 := h.pe
  refine ⟨⟨h.hd, ir, h.he, is, h5, by omega, h6, by omega, by omega, by omega, ?_⟩, by omega⟩
  rw [h.same hc, cmp_flip, Int.mul_neg, Int.neg_mul]
end Go.Proofs.Dt
namespace Go.Proofs.Tryz
open Go.RowKit Go.Shelf Go.Proofs.Dt

theorem two_facts (w : World) (x y x' y' : ByteArray) : FB ((w.alloc (.cells #[.string x, .string y] 26)).alloc (.cells #[.string x', .string y'] 26)) w.heap.size x y ∧ FB ((w.alloc (.cells #[.string x, .string y] 26)).alloc (.cells #[.string x', .string y'] 26)) (w.heap.size + 1) x' y' ∧ Since w ((w.alloc (.cells #[.string x, .string y] 26)).alloc (.cells #[.string x', .string y'] 26)) := by
  have a1 := FB.new w x y
  have a2 := (Below.heap_alloc (w.alloc (.cells #[.string x, .string y] 26)) (.cells #[.string x', .string y'] 26) _ a1.lt).trans a1
  have b2 := FB.new (w.alloc (.cells #[.string x, .string y] 26)) x' y'
  rw [World.size_alloc] at b2
  exact ⟨a2, b2, ((Below.refl _ w).alloc (Nat.le_refl _) _).alloc (by simp) _⟩
theorem FB.other {W : World} {k j : Nat} {x y : ByteArray} (h : FB W k x y) (hne : k ≠ j) (u v : Value) : FB ((W.setCell ⟨j, 0, none⟩ u).setCell ⟨j, 1, none⟩ v) k x y :=
  ((Below.heap_setCell _ _ _ _ hne).trans (Below.heap_setCell _ _ _ _ hne)).trans h

/-- The denominator in block k. -/
def denOf (W : World) (k : Nat) : Nat := match W.cell? ⟨k, 1, none⟩ with | some (.string y) => (num y.data.toList).toNat | _ => 0
theorem denOf_eq {W : World} {k : Nat} {x y : ByteArray} {d : Int} (h : FB W k x y) (hd : Is y d) : denOf W k = d.toNat := by
  unfold denOf; rw [h.c1]; show (num y.data.toList).toNat = _; rw [hd.list, num_str]
theorem FB.drew {W : World} {k : Nat} {x y : ByteArray} (h : FB W k x y) : FB W.drew k x y := h

/-- The state at the label. -/
def CState (w W : World) (x y x' y' : ByteArray) (n d m e sg res : Int) : Prop := FB W w.heap.size x y ∧ FB W (w.heap.size + 1) x' y' ∧ Since w W ∧ CNum x y x' y' n d m e sg res

def CJ (w : World) (x y x' y' : ByteArray) (c : Int) (a' : Act) (W : World) : Prop := ∃ (xx yy xx' yy' : ByteArray) (n d m e sg : Int) (u6 u7 u8 u9 u10 u11 u12 u13 u14 u15 u16 u17 u18 u19 u20 u21 u22 u23 u24 u25 u26 u27 u28 u29 u30 u31 u32 u33 u34 u35 u36 u37 u38 u39 u40 u41 u42 u43 u44 u45 u46 u47 u48 u49 u50 u51 u52 u53 u54 u55 u56 u57 u58 u59 u60 u61 u62 u63 u64 u65 u66 u67 u68 u69 u70 u71 u72 u73 : Value), a' = { tmps := #[.agg #[.string x, .string y], .agg #[.string x', .string y'], .pointer (some ⟨w.heap.size, 0, none⟩), .pointer (some ⟨w.heap.size + 1, 0, none⟩), .int .i64 0, .int .i64 sg, u6, u7, u8, u9, u10, u11, u12, u13, u14, u15, u16, u17, u18, u19, u20, u21, u22, u23, u24, u25, u26, u27, u28, u29, u30, u31, u32, u33, u34, u35, u36, u37, u38, u39, u40, u41, u42, u43, u44, u45, u46, u47, u48, u49, u50, u51, u52, u53, u54, u55, u56, u57, u58, u59, u60, u61, u62, u63, u64, u65, u66, u67, u68, u69, u70, u71, u72, u73], defers := [] } ∧ (sg = 1 ∨ sg = -1) ∧ Hid (CState w W xx yy xx' yy' n d m e sg c)
def Cμ (w : World) (_ : Act) (W : World) : Nat := denOf W w.heap.size

set_option maxHeartbeats 4000000 in
set_option maxRecDepth 100000 in
theorem fcmp_any (x y x' y' : ByteArray) (c : Int) (w : World) (ht : Hid (Tab w)) (hr : Hid (cmpO (frac x.data.toList y.data.toList) (frac x'.data.toList y'.data.toList) = c)) :
    Calls Tryz.prog 14 #[.agg #[.string x, .string y], .agg #[.string x', .string y']] w fun e w' => e = .returned (.int .i64 c) ∧ Since w w' := by
  obtain ⟨ha, hb, hs⟩ := two_facts w x y x' y'
  have HA := Lib.hid ha
  have HB := Lib.hid hb
  have HS := Lib.hid hs
  clear ha hb hs
  have a0 := HA.out.c0; have a1 := HA.out.c1; have a2 := HB.out.c0; have a3 := HB.out.c1
  have mixed : Tryz.prog.follows .mixedOrders = true := by kernel_rfl
  go_enter Tryz.func14, Tryz.ntmps14
  go_wp2_with fail
  clear a0 a1 a2 a3
  refine wp_scope_jumps 0 (CJ w x y x' y' c) (Cμ w) rfl ?_ ?_
  · generalize (w.alloc (.cells #[.string x, .string y] 26)).alloc (.cells #[.string x', .string y'] 26) = V at HA HB HS ⊢
    have a0 := HA.out.c0; have a1 := HA.out.c1; have a2 := HB.out.c0; have a3 := HB.out.c1
    go_wp2_with fail
    clear a0 a1 a2 a3
    refine (validR_any x y V (HS.tab ht)).mono ?_
    obtain ⟨v1, h1⟩ : ∃ v, validR x.data.toList y.data.toList = v := ⟨_, rfl⟩
    rw [h1]
    have V1 := Lib.hid h1
    rintro e V2 ⟨rfl, hb2⟩
    have HA2 : Hid (FB V2 w.heap.size x y) := HA.out.below hb2 HA.out.lt
    have HB2 : Hid (FB V2 (w.heap.size + 1) x' y') := HB.out.below hb2 HB.out.lt
    have HS2 : Since w V2 := HS.next hb2
    have a0 := HA2.out.c0; have a1 := HA2.out.c1; have a2 := HB2.out.c0; have a3 := HB2.out.c1
    clear hb2 HA HB HS h1
    cases v1
    · have HC : Hid (c = 0) := by show c = 0; rw [← hr.out, frac_no V1.out]; rfl
      go_wp2
      simp only [Exit.jump]
      go_ret
      exact ⟨ret_int HC.out.symm, HS2⟩
    · go_wp2_with fail
      clear a0 a1 a2 a3
      refine (validR_any x' y' V2 (HS2.tab ht)).mono ?_
      obtain ⟨v2, h2⟩ : ∃ v, validR x'.data.toList y'.data.toList = v := ⟨_, rfl⟩
      rw [h2]
      have V2' := Lib.hid h2
      rintro e V3 ⟨rfl, hb3⟩
      have HA3 : Hid (FB V3 w.heap.size x y) := HA2.out.below hb3 HA2.out.lt
      have HB3 : Hid (FB V3 (w.heap.size + 1) x' y') := HB2.out.below hb3 HB2.out.lt
      have HS3 : Since w V3 := HS2.next hb3
      clear hb3 HA2 HB2 HS2 h2
      cases v2
      · have HC : Hid (c = 0) := by show c = 0; rw [← hr.out, frac_no V2'.out]; cases frac x.data.toList y.data.toList <;> rfl
        go_wp2
        simp only [Exit.jump]
        go_ret
        exact ⟨ret_int HC.out.symm, HS3⟩
      · obtain ⟨n, d, m, e, CN⟩ : ∃ n d m e : Int, CNum x y x' y' n d m e 1 c := by
          obtain ⟨p, hp, px, py, pn, pd⟩ := frac_yes V1.out
          obtain ⟨q, hq, qx, qy, qn, qd⟩ := frac_yes V2'.out
          have hpp := p.den_pos
          have hqp := q.den_pos
          refine ⟨p.num, p.den, q.num, q.den, Is.of_list px, Is.of_list py, Is.of_list qx, Is.of_list qy, pn, den_lim pd, qn, den_lim qd, by omega, by omega, ?_⟩
          have := hr.out
          rw [hp, hq] at this
          rw [← this]
          show cmpR p q = _
          unfold cmpR; omega
        have CN := Lib.hid CN
        clear hr V1 V2'
        have a0 := HA3.out.c0; have a1 := HA3.out.c1; have a2 := HB3.out.c0; have a3 := HB3.out.c1
        go_wp2_with fail
        go_step3
        go_wp2_with fail
        clear a0 a1 a2 a3
        obtain ⟨q, Iq⟩ := Is.exists (n / d)
        obtain ⟨r, Ir⟩ := Is.exists (n % d)
        obtain ⟨p, Ip⟩ := Is.exists (m / e)
        obtain ⟨s, Is'⟩ := Is.exists (m % e)
        obtain ⟨cc, hcc⟩ : ∃ cc, cc = sgn (n / d - m / e) := ⟨_, rfl⟩
        have hq : (n / d).natAbs < limit := by have := Int.natAbs_ediv_le_natAbs n d; have := CN.out.ln; omega
        have hp : (m / e).natAbs < limit := by have := Int.natAbs_ediv_le_natAbs m e; have := CN.out.lm; omega
        have F1 : Hid (divS x.data.toList y.data.toList = (q.data.toList, r.data.toList, 0)) := div_is CN.out.hn CN.out.hd Iq Ir CN.out.ln CN.out.ld (by have := CN.out.pd; omega) rfl rfl
        have F2 : Hid (divS x'.data.toList y'.data.toList = (p.data.toList, s.data.toList, 0)) := div_is CN.out.hm CN.out.he Ip Is' CN.out.lm CN.out.le (by have := CN.out.pe; omega) rfl rfl
        have F3 : Hid (cmpS q.data.toList p.data.toList = cc) := (cmp_is Iq Ip hq hp).trans hcc.symm
        have hc0 := sgn_in (n / d - m / e)
        rw [← hcc] at hc0
        have HCC := Lib.hid hcc
        clear hq hp hcc
        refine (div_to q r 0 (HS3.tab ht) (Since.refl V3) F1.out).mono ?_
        rintro e1 X1 ⟨rfl, hb1⟩
        have HA4 : Hid (FB X1 w.heap.size x y) := HA3.out.below hb1.out HA3.out.lt
        have HB4 : Hid (FB X1 (w.heap.size + 1) x' y') := HB3.out.below hb1.out HB3.out.lt
        have HS4 : Since w X1 := HS3.next hb1.out
        clear hb1 HA3 HB3 HS3
        have a0 := HA4.out.c0; have a1 := HA4.out.c1; have a2 := HB4.out.c0; have a3 := HB4.out.c1
        go_wp2_with fail
        clear a0 a1 a2 a3
        refine (div_to p s 0 (HS4.tab ht) (Since.refl X1) F2.out).mono ?_
        rintro e2 X2 ⟨rfl, hb2⟩
        have HA5 : Hid (FB X2 w.heap.size x y) := HA4.out.below hb2.out HA4.out.lt
        have HB5 : Hid (FB X2 (w.heap.size + 1) x' y') := HB4.out.below hb2.out HB4.out.lt
        have HS5 : Since w X2 := HS4.next hb2.out
        clear hb2 HA4 HB4 HS4
        go_wp2_with fail
        refine (compareS_any q p X2).mono ?_
        rw [F3.out]
        rintro e3 X3 ⟨rfl, hb3⟩
        have HA6 : Hid (FB X3 w.heap.size x y) := HA5.out.below hb3 HA5.out.lt
        have HB6 : Hid (FB X3 (w.heap.size + 1) x' y') := HB5.out.below hb3 HB5.out.lt
        have HS6 : Since w X3 := HS5.next hb3
        clear hb3 HA5 HB5 HS5
        by_cases hz : cc = 0
        · subst hz
          have HZ : Hid (sgn (n / d - m / e) = 0) := HCC.out.symm
          by_cases hr0 : n % d = 0
          · obtain rfl : r = ⟨#[48]⟩ := (Is.inj Ir Is.zero).2 hr0
            by_cases hs0 : m % e = 0
            · obtain rfl : s = ⟨#[48]⟩ := (Is.inj Is' Is.zero).2 hs0
              have HC : Hid (c = 0) := CN.out.both HZ.out hr0 hs0
              clear hr0 hs0 hc0
              go_wp2
              simp only [Exit.jump]
              go_ret
              exact ⟨ret_int HC.out.symm, HS6⟩
            · have hsz := zero_ne Is' hs0
              have HC : Hid (c = -(1)) := CN.out.left HZ.out hr0 hs0
              clear hr0 hs0 hc0
              go_wp2
              simp only [Exit.jump]
              go_ret
              exact ⟨ret_int HC.out.symm, HS6⟩
          · have hrz := zero_ne Ir hr0
            by_cases hs0 : m % e = 0
            · obtain rfl : s = ⟨#[48]⟩ := (Is.inj Is' Is.zero).2 hs0
              have HC : Hid (c = 1) := CN.out.right HZ.out hr0 hs0
              clear hr0 hs0 hc0
              go_wp2
              simp only [Exit.jump]
              go_ret
              exact ⟨ret_int HC.out.symm, HS6⟩
            · have hsz := zero_ne Is' hs0
              have HN := Lib.hid (CN.out.flip HZ.out Ir Is' hr0 hs0)
              have N0 : Hid (FB ((((X3.setCell ⟨w.heap.size, 0, none⟩ (.string y)).setCell ⟨w.heap.size, 1, none⟩ (.string r)).setCell ⟨w.heap.size + 1, 0, none⟩ (.string y')).setCell ⟨w.heap.size + 1, 1, none⟩ (.string s)).drew w.heap.size y r) := (HA6.out.put y r).other (by omega) _ _
              have N1 : Hid (FB ((((X3.setCell ⟨w.heap.size, 0, none⟩ (.string y)).setCell ⟨w.heap.size, 1, none⟩ (.string r)).setCell ⟨w.heap.size + 1, 0, none⟩ (.string y')).setCell ⟨w.heap.size + 1, 1, none⟩ (.string s)).drew (w.heap.size + 1) y' s) := (HB6.out.other (by omega) _ _).put y' s
              have N2 : Since w ((((X3.setCell ⟨w.heap.size, 0, none⟩ (.string y)).setCell ⟨w.heap.size, 1, none⟩ (.string r)).setCell ⟨w.heap.size + 1, 0, none⟩ (.string y')).setCell ⟨w.heap.size + 1, 1, none⟩ (.string s)).drew := ((HS6.put (by omega) _ _).put (by omega) _ _).out.drew
              have N3 : Hid (CState w ((((X3.setCell ⟨w.heap.size, 0, none⟩ (.string y)).setCell ⟨w.heap.size, 1, none⟩ (.string r)).setCell ⟨w.heap.size + 1, 0, none⟩ (.string y')).setCell ⟨w.heap.size + 1, 1, none⟩ (.string s)).drew y r y' s d (n % d) e (m % e) (-1) c) := ⟨N0.out, N1.out, N2, HN.out.1⟩
              clear N1 N2
              clear hr0 hs0 hc0
              have a0 := HA6.out.c0; have a1 := HA6.out.c1; have a2 := HB6.out.c0; have a3 := HB6.out.c1
              have f0 := HA6.out.f0; have f1 := HA6.out.f1; have f2 := HB6.out.f0; have f3 := HB6.out.f1
              go_wp2_with fail
              clear HN F1 F2 F3 HCC HZ Iq Ir Ip Is'
              go_region
              go_wp2
              go_step3
              exact ⟨rfl, y, r, y', s, d, n % d, e, m % e, -1, _, _, _, _, _, _, _, _, _, _, _, _, _, _, _, _, _, _, _, _, _, _, _, _, _, _, _, _, _, _, _, _, _, _, _, _, _, _, _, _, _, _, _, _, _, _, _, _, _, _, _, _, _, _, _, _, _, _, _, _, _, _, _, _, _, _, _, _, rfl, .inr rfl, N3⟩
        · have HC : Hid (c = 1 * cc) := (CN.out.whole (by rw [← HCC.out]; exact hz)).trans (by rw [← HCC.out])
          go_wp2
          simp only [Exit.jump]
          go_ret
          exact ⟨ret_int (by have := HC.out; omega), HS6⟩
  · clear HA HB HS hr
    rintro a' W ⟨x, y, x', y', n, d, m, e, sg, u6, u7, u8, u9, u10, u11, u12, u13, u14, u15, u16, u17, u18, u19, u20, u21, u22, u23, u24, u25, u26, u27, u28, u29, u30, u31, u32, u33, u34, u35, u36, u37, u38, u39, u40, u41, u42, u43, u44, u45, u46, u47, u48, u49, u50, u51, u52, u53, u54, u55, u56, u57, u58, u59, u60, u61, u62, u63, u64, u65, u66, u67, u68, u69, u70, u71, u72, u73, rfl, hsg, HI⟩
    have HA3 : Hid (FB W w.heap.size x y) := HI.out.1
    have HB3 : Hid (FB W (w.heap.size + 1) x' y') := HI.out.2.1
    have HS3 : Since w W := HI.out.2.2.1
    have CN := Lib.hid HI.out.2.2.2
    have HD : Hid (denOf W w.heap.size = d.toNat) := denOf_eq HI.out.1 CN.out.hd
    clear HI
    have a0 := HA3.out.c0; have a1 := HA3.out.c1; have a2 := HB3.out.c0; have a3 := HB3.out.c1
    rcases hsg with rfl | rfl
    · go_wp2_with fail
      clear a0 a1 a2 a3
      obtain ⟨q, Iq⟩ := Is.exists (n / d)
      obtain ⟨r, Ir⟩ := Is.exists (n % d)
      obtain ⟨p, Ip⟩ := Is.exists (m / e)
      obtain ⟨s, Is'⟩ := Is.exists (m % e)
      obtain ⟨cc, hcc⟩ : ∃ cc, cc = sgn (n / d - m / e) := ⟨_, rfl⟩
      have hq : (n / d).natAbs < limit := by have := Int.natAbs_ediv_le_natAbs n d; have := CN.out.ln; omega
      have hp : (m / e).natAbs < limit := by have := Int.natAbs_ediv_le_natAbs m e; have := CN.out.lm; omega
      have F1 : Hid (divS x.data.toList y.data.toList = (q.data.toList, r.data.toList, 0)) := div_is CN.out.hn CN.out.hd Iq Ir CN.out.ln CN.out.ld (by have := CN.out.pd; omega) rfl rfl
      have F2 : Hid (divS x'.data.toList y'.data.toList = (p.data.toList, s.data.toList, 0)) := div_is CN.out.hm CN.out.he Ip Is' CN.out.lm CN.out.le (by have := CN.out.pe; omega) rfl rfl
      have F3 : Hid (cmpS q.data.toList p.data.toList = cc) := (cmp_is Iq Ip hq hp).trans hcc.symm
      have hc0 := sgn_in (n / d - m / e)
      rw [← hcc] at hc0
      have HCC := Lib.hid hcc
      clear hq hp hcc
      refine (div_to q r 0 (HS3.tab ht) (Since.refl W) F1.out).mono ?_
      rintro e1 X1 ⟨rfl, hb1⟩
      have HA4 : Hid (FB X1 w.heap.size x y) := HA3.out.below hb1.out HA3.out.lt
      have HB4 : Hid (FB X1 (w.heap.size + 1) x' y') := HB3.out.below hb1.out HB3.out.lt
      have HS4 : Since w X1 := HS3.next hb1.out
      clear hb1 HA3 HB3 HS3
      have a0 := HA4.out.c0; have a1 := HA4.out.c1; have a2 := HB4.out.c0; have a3 := HB4.out.c1
      go_wp2_with fail
      clear a0 a1 a2 a3
      refine (div_to p s 0 (HS4.tab ht) (Since.refl X1) F2.out).mono ?_
      rintro e2 X2 ⟨rfl, hb2⟩
      have HA5 : Hid (FB X2 w.heap.size x y) := HA4.out.below hb2.out HA4.out.lt
      have HB5 : Hid (FB X2 (w.heap.size + 1) x' y') := HB4.out.below hb2.out HB4.out.lt
      have HS5 : Since w X2 := HS4.next hb2.out
      clear hb2 HA4 HB4 HS4
      go_wp2_with fail
      refine (compareS_any q p X2).mono ?_
      rw [F3.out]
      rintro e3 X3 ⟨rfl, hb3⟩
      have HA6 : Hid (FB X3 w.heap.size x y) := HA5.out.below hb3 HA5.out.lt
      have HB6 : Hid (FB X3 (w.heap.size + 1) x' y') := HB5.out.below hb3 HB5.out.lt
      have HS6 : Since w X3 := HS5.next hb3
      clear hb3 HA5 HB5 HS5
      by_cases hz : cc = 0
      · subst hz
        have HZ : Hid (sgn (n / d - m / e) = 0) := HCC.out.symm
        by_cases hr0 : n % d = 0
        · obtain rfl : r = ⟨#[48]⟩ := (Is.inj Ir Is.zero).2 hr0
          by_cases hs0 : m % e = 0
          · obtain rfl : s = ⟨#[48]⟩ := (Is.inj Is' Is.zero).2 hs0
            have HC : Hid (c = 0) := CN.out.both HZ.out hr0 hs0
            clear hr0 hs0 hc0
            go_wp2
            simp only [Exit.jump]
            go_ret
            exact ⟨ret_int HC.out.symm, HS6⟩
          · have hsz := zero_ne Is' hs0
            have HC : Hid (c = -(1)) := CN.out.left HZ.out hr0 hs0
            clear hr0 hs0 hc0
            go_wp2
            simp only [Exit.jump]
            go_ret
            exact ⟨ret_int HC.out.symm, HS6⟩
        · have hrz := zero_ne Ir hr0
          by_cases hs0 : m % e = 0
          · obtain rfl : s = ⟨#[48]⟩ := (Is.inj Is' Is.zero).2 hs0
            have HC : Hid (c = 1) := CN.out.right HZ.out hr0 hs0
            clear hr0 hs0 hc0
            go_wp2
            simp only [Exit.jump]
            go_ret
            exact ⟨ret_int HC.out.symm, HS6⟩
          · have hsz := zero_ne Is' hs0
            have HN := Lib.hid (CN.out.flip HZ.out Ir Is' hr0 hs0)
            have N0 : Hid (FB ((((X3.setCell ⟨w.heap.size, 0, none⟩ (.string y)).setCell ⟨w.heap.size, 1, none⟩ (.string r)).setCell ⟨w.heap.size + 1, 0, none⟩ (.string y')).setCell ⟨w.heap.size + 1, 1, none⟩ (.string s)).drew w.heap.size y r) := (HA6.out.put y r).other (by omega) _ _
            have N1 : Hid (FB ((((X3.setCell ⟨w.heap.size, 0, none⟩ (.string y)).setCell ⟨w.heap.size, 1, none⟩ (.string r)).setCell ⟨w.heap.size + 1, 0, none⟩ (.string y')).setCell ⟨w.heap.size + 1, 1, none⟩ (.string s)).drew (w.heap.size + 1) y' s) := (HB6.out.other (by omega) _ _).put y' s
            have N2 : Since w ((((X3.setCell ⟨w.heap.size, 0, none⟩ (.string y)).setCell ⟨w.heap.size, 1, none⟩ (.string r)).setCell ⟨w.heap.size + 1, 0, none⟩ (.string y')).setCell ⟨w.heap.size + 1, 1, none⟩ (.string s)).drew := ((HS6.put (by omega) _ _).put (by omega) _ _).out.drew
            have N3 : Hid (CState w ((((X3.setCell ⟨w.heap.size, 0, none⟩ (.string y)).setCell ⟨w.heap.size, 1, none⟩ (.string r)).setCell ⟨w.heap.size + 1, 0, none⟩ (.string y')).setCell ⟨w.heap.size + 1, 1, none⟩ (.string s)).drew y r y' s d (n % d) e (m % e) (-1) c) := ⟨N0.out, N1.out, N2, HN.out.1⟩
            have ND : Hid (denOf ((((X3.setCell ⟨w.heap.size, 0, none⟩ (.string y)).setCell ⟨w.heap.size, 1, none⟩ (.string r)).setCell ⟨w.heap.size + 1, 0, none⟩ (.string y')).setCell ⟨w.heap.size + 1, 1, none⟩ (.string s)).drew w.heap.size < denOf W w.heap.size) := by show _ < _; rw [denOf_eq N0.out Ir, HD.out]; exact HN.out.2
            clear N1 N2
            clear hr0 hs0 hc0
            have a0 := HA6.out.c0; have a1 := HA6.out.c1; have a2 := HB6.out.c0; have a3 := HB6.out.c1
            have f0 := HA6.out.f0; have f1 := HA6.out.f1; have f2 := HB6.out.f0; have f3 := HB6.out.f1
            go_wp2_with fail
            clear HN F1 F2 F3 HCC HZ Iq Ir Ip Is'
            go_region
            go_wp2
            go_step3
            exact ⟨rfl, ⟨y, r, y', s, d, n % d, e, m % e, -1, _, _, _, _, _, _, _, _, _, _, _, _, _, _, _, _, _, _, _, _, _, _, _, _, _, _, _, _, _, _, _, _, _, _, _, _, _, _, _, _, _, _, _, _, _, _, _, _, _, _, _, _, _, _, _, _, _, _, _, _, _, _, _, _, _, _, _, _, rfl, .inr rfl, N3⟩, ND.out⟩
      · have HC : Hid (c = 1 * cc) := (CN.out.whole (by rw [← HCC.out]; exact hz)).trans (by rw [← HCC.out])
        go_wp2
        simp only [Exit.jump]
        go_ret
        exact ⟨ret_int (by have := HC.out; omega), HS6⟩
    · go_wp2_with fail
      clear a0 a1 a2 a3
      obtain ⟨q, Iq⟩ := Is.exists (n / d)
      obtain ⟨r, Ir⟩ := Is.exists (n % d)
      obtain ⟨p, Ip⟩ := Is.exists (m / e)
      obtain ⟨s, Is'⟩ := Is.exists (m % e)
      obtain ⟨cc, hcc⟩ : ∃ cc, cc = sgn (n / d - m / e) := ⟨_, rfl⟩
      have hq : (n / d).natAbs < limit := by have := Int.natAbs_ediv_le_natAbs n d; have := CN.out.ln; omega
      have hp : (m / e).natAbs < limit := by have := Int.natAbs_ediv_le_natAbs m e; have := CN.out.lm; omega
      have F1 : Hid (divS x.data.toList y.data.toList = (q.data.toList, r.data.toList, 0)) := div_is CN.out.hn CN.out.hd Iq Ir CN.out.ln CN.out.ld (by have := CN.out.pd; omega) rfl rfl
      have F2 : Hid (divS x'.data.toList y'.data.toList = (p.data.toList, s.data.toList, 0)) := div_is CN.out.hm CN.out.he Ip Is' CN.out.lm CN.out.le (by have := CN.out.pe; omega) rfl rfl
      have F3 : Hid (cmpS q.data.toList p.data.toList = cc) := (cmp_is Iq Ip hq hp).trans hcc.symm
      have hc0 := sgn_in (n / d - m / e)
      rw [← hcc] at hc0
      have HCC := Lib.hid hcc
      clear hq hp hcc
      refine (div_to q r 0 (HS3.tab ht) (Since.refl W) F1.out).mono ?_
      rintro e1 X1 ⟨rfl, hb1⟩
      have HA4 : Hid (FB X1 w.heap.size x y) := HA3.out.below hb1.out HA3.out.lt
      have HB4 : Hid (FB X1 (w.heap.size + 1) x' y') := HB3.out.below hb1.out HB3.out.lt
      have HS4 : Since w X1 := HS3.next hb1.out
      clear hb1 HA3 HB3 HS3
      have a0 := HA4.out.c0; have a1 := HA4.out.c1; have a2 := HB4.out.c0; have a3 := HB4.out.c1
      go_wp2_with fail
      clear a0 a1 a2 a3
      refine (div_to p s 0 (HS4.tab ht) (Since.refl X1) F2.out).mono ?_
      rintro e2 X2 ⟨rfl, hb2⟩
      have HA5 : Hid (FB X2 w.heap.size x y) := HA4.out.below hb2.out HA4.out.lt
      have HB5 : Hid (FB X2 (w.heap.size + 1) x' y') := HB4.out.below hb2.out HB4.out.lt
      have HS5 : Since w X2 := HS4.next hb2.out
      clear hb2 HA4 HB4 HS4
      go_wp2_with fail
      refine (compareS_any q p X2).mono ?_
      rw [F3.out]
      rintro e3 X3 ⟨rfl, hb3⟩
      have HA6 : Hid (FB X3 w.heap.size x y) := HA5.out.below hb3 HA5.out.lt
      have HB6 : Hid (FB X3 (w.heap.size + 1) x' y') := HB5.out.below hb3 HB5.out.lt
      have HS6 : Since w X3 := HS5.next hb3
      clear hb3 HA5 HB5 HS5
      by_cases hz : cc = 0
      · subst hz
        have HZ : Hid (sgn (n / d - m / e) = 0) := HCC.out.symm
        by_cases hr0 : n % d = 0
        · obtain rfl : r = ⟨#[48]⟩ := (Is.inj Ir Is.zero).2 hr0
          by_cases hs0 : m % e = 0
          · obtain rfl : s = ⟨#[48]⟩ := (Is.inj Is' Is.zero).2 hs0
            have HC : Hid (c = 0) := CN.out.both HZ.out hr0 hs0
            clear hr0 hs0 hc0
            go_wp2
            simp only [Exit.jump]
            go_ret
            exact ⟨ret_int HC.out.symm, HS6⟩
          · have hsz := zero_ne Is' hs0
            have HC : Hid (c = -(-1)) := CN.out.left HZ.out hr0 hs0
            clear hr0 hs0 hc0
            go_wp2
            simp only [Exit.jump]
            go_ret
            exact ⟨ret_int HC.out.symm, HS6⟩
        · have hrz := zero_ne Ir hr0
          by_cases hs0 : m % e = 0
          · obtain rfl : s = ⟨#[48]⟩ := (Is.inj Is' Is.zero).2 hs0
            have HC : Hid (c = -1) := CN.out.right HZ.out hr0 hs0
            clear hr0 hs0 hc0
            go_wp2
            simp only [Exit.jump]
            go_ret
            exact ⟨ret_int HC.out.symm, HS6⟩
          · have hsz := zero_ne Is' hs0
            have HN := Lib.hid (CN.out.flip HZ.out Ir Is' hr0 hs0)
            have N0 : Hid (FB ((((X3.setCell ⟨w.heap.size, 0, none⟩ (.string y)).setCell ⟨w.heap.size, 1, none⟩ (.string r)).setCell ⟨w.heap.size + 1, 0, none⟩ (.string y')).setCell ⟨w.heap.size + 1, 1, none⟩ (.string s)).drew w.heap.size y r) := (HA6.out.put y r).other (by omega) _ _
            have N1 : Hid (FB ((((X3.setCell ⟨w.heap.size, 0, none⟩ (.string y)).setCell ⟨w.heap.size, 1, none⟩ (.string r)).setCell ⟨w.heap.size + 1, 0, none⟩ (.string y')).setCell ⟨w.heap.size + 1, 1, none⟩ (.string s)).drew (w.heap.size + 1) y' s) := (HB6.out.other (by omega) _ _).put y' s
            have N2 : Since w ((((X3.setCell ⟨w.heap.size, 0, none⟩ (.string y)).setCell ⟨w.heap.size, 1, none⟩ (.string r)).setCell ⟨w.heap.size + 1, 0, none⟩ (.string y')).setCell ⟨w.heap.size + 1, 1, none⟩ (.string s)).drew := ((HS6.put (by omega) _ _).put (by omega) _ _).out.drew
            have N3 : Hid (CState w ((((X3.setCell ⟨w.heap.size, 0, none⟩ (.string y)).setCell ⟨w.heap.size, 1, none⟩ (.string r)).setCell ⟨w.heap.size + 1, 0, none⟩ (.string y')).setCell ⟨w.heap.size + 1, 1, none⟩ (.string s)).drew y r y' s d (n % d) e (m % e) (1) c) := ⟨N0.out, N1.out, N2, HN.out.1⟩
            have ND : Hid (denOf ((((X3.setCell ⟨w.heap.size, 0, none⟩ (.string y)).setCell ⟨w.heap.size, 1, none⟩ (.string r)).setCell ⟨w.heap.size + 1, 0, none⟩ (.string y')).setCell ⟨w.heap.size + 1, 1, none⟩ (.string s)).drew w.heap.size < denOf W w.heap.size) := by show _ < _; rw [denOf_eq N0.out Ir, HD.out]; exact HN.out.2
            clear N1 N2
            clear hr0 hs0 hc0
            have a0 := HA6.out.c0; have a1 := HA6.out.c1; have a2 := HB6.out.c0; have a3 := HB6.out.c1
            have f0 := HA6.out.f0; have f1 := HA6.out.f1; have f2 := HB6.out.f0; have f3 := HB6.out.f1
            go_wp2_with fail
            clear HN F1 F2 F3 HCC HZ Iq Ir Ip Is'
            go_region
            go_wp2
            go_step3
            exact ⟨rfl, ⟨y, r, y', s, d, n % d, e, m % e, 1, _, _, _, _, _, _, _, _, _, _, _, _, _, _, _, _, _, _, _, _, _, _, _, _, _, _, _, _, _, _, _, _, _, _, _, _, _, _, _, _, _, _, _, _, _, _, _, _, _, _, _, _, _, _, _, _, _, _, _, _, _, _, _, _, _, _, _, _, rfl, .inl rfl, N3⟩, ND.out⟩
      · have HC : Hid (c = -1 * cc) := (CN.out.whole (by rw [← HCC.out]; exact hz)).trans (by rw [← HCC.out])
        go_wp2
        simp only [Exit.jump]
        go_ret
        exact ⟨ret_int (by have := HC.out; omega), HS6⟩

end Go.Proofs.Tryz
