/- The reference's sum, Add, Sub, Mul, Gcd, Compare and Div: what they return. -/
import Derived.Test.YtjjmabokoendbaaGreatDoorRB
import Derived.Test.YtjjmabokoendbaaGreatDoorIZ
namespace Go.Proofs.Dt

theorem rtext_fits (neg : Bool) {xs : List Int} {n : Nat} (h : RepN 10 xs n) : (rtextS neg xs).2 = decide (n < limit) := by
  have hl : 0 < limit := by unfold limit; exact Nat.pow_pos (by decide)
  by_cases h0 : xs = []
  · have := (h.pos (by decide)).1 h0
    rw [h0, rtextS_nil, decide_eq_true (by omega)]
  · rw [rtextS_ne _ h0]
    show decide (xs.length ≤ 200) = _
    apply decide_eq_decide.2
    constructor
    · intro e; exact rep_bd h e
    · intro e
      exact h.length (by decide) (by have := Int.ofNat_lt.2 (show n < 10 ^ 200 from e); rw [Int.natCast_pow] at this; exact this)

end Go.Proofs.Dt
namespace Go.Proofs.Tryz
open Go.RowKit Go.Shelf Go.Proofs.Dt

theorem rtext_sv {neg : Bool} {xs : List Int} {n : Nat} (h : RepN 10 xs n) : (rtextS neg xs).1 = str (sv neg n) := rtext_str neg h

set_option maxHeartbeats 1000000 in
theorem rchecked_any (neg : Bool) (v : Value) (n : Nat) (w : World) (q1 : ByteArray) (q2 : Int) (h : DNum w v n) (hf : DLim 1000 n) (hq : Hid (res (sv neg n) = (q1.data.toList, q2))) :
    Calls Tryz.prog 63 #[.bool neg, v] w fun e w' => e = .returned (.tuple #[.string q1, .int .i64 q2]) ∧ Below w.heap.size w w' := by
  obtain ⟨xs, ix, rx⟩ := h
  have hlx := hf.len rx
  obtain ⟨ax, cx, rfl⟩ := ix.shape
  have HT := Lib.hid (rtext_any neg w ix hlx rx.good)
  by_cases hn : n < limit
  · have HF : Hid ((rtextS neg xs).2 = true) := (rtext_fits neg rx).trans (decide_eq_true hn)
    have HE : Hid ((⟨(rtextS neg xs).1.toArray⟩ : ByteArray) = q1 ∧ q2 = 0) := by
      have h1 := hq.out
      rw [res_ok (by rw [sv_abs]; exact hn)] at h1
      have h2 := (Prod.mk.inj h1).1
      exact ⟨by rw [rtext_sv rx, h2], (Prod.mk.inj h1).2.symm⟩
    rw [HF.out, HE.out.1] at HT
    have hq2 := HE.out.2
    subst hq2
    clear ix rx hf hn hq
    go_enter Tryz.func63, Tryz.ntmps63
    go_wp2_with fail
    refine HT.out.mono ?_
    rintro e w1 ⟨rfl, hb⟩
    go_wp2
    go_ret2
    exact ⟨rfl, hb⟩
  · have HF : Hid ((rtextS neg xs).2 = false) := (rtext_fits neg rx).trans (decide_eq_false hn)
    have HE : Hid (q1 = ⟨#[]⟩ ∧ q2 = 30) := by
      have h1 := hq.out
      rw [res_no (by rw [sv_abs]; exact hn)] at h1
      have h2 := (Prod.mk.inj h1).1
      refine ⟨?_, (Prod.mk.inj h1).2.symm⟩
      obtain ⟨⟨l⟩⟩ := q1
      have : l = [] := h2.symm
      rw [this]
    obtain ⟨z, hz⟩ : ∃ z : ByteArray, z = ⟨(rtextS neg xs).1.toArray⟩ := ⟨_, rfl⟩
    rw [HF.out, ← hz] at HT
    obtain ⟨rfl, rfl⟩ := HE.out
    clear ix rx hf hn hq hz HE
    go_enter Tryz.func63, Tryz.ntmps63
    go_wp2_with fail
    refine HT.out.mono ?_
    rintro e w1 ⟨rfl, hb⟩
    go_wp2
    go_ret2
    exact ⟨rfl, hb⟩

set_option maxHeartbeats 2000000 in
theorem rsum_any (p q : Bool) (v u : Value) (a b : Nat) (w : World) (q1 : ByteArray) (q2 : Int) (hv : DNum w v a) (hu : DNum w u b) (fa : DLim 400 a) (fb : DLim 400 b) (hq : Hid (res (sv p a + sv q b) = (q1.data.toList, q2))) :
    Calls Tryz.prog 92 #[.bool p, v, .bool q, u] w fun e w' => e = .returned (.tuple #[.string q1, .int .i64 q2]) ∧ Below w.heap.size w w' := by
  obtain ⟨a1, l1, c1, rfl⟩ := hv.shape
  obtain ⟨a2, l2, c2, rfl⟩ := hu.shape
  have HV := Lib.hid hv
  have HU := Lib.hid hu
  have FA := Lib.hid fa
  have FB := Lib.hid fb
  clear hv hu fa fb
  by_cases hpq : p = q
  · subst hpq
    have HQ : Hid (res (sv p (a + b)) = (q1.data.toList, q2)) := by
      show _ = _; rw [← hq.out]; congr 1; unfold sv; split <;> omega
    clear hq
    have hpp : (p == p) = true := by simp
    go_enter Tryz.func92, Tryz.ntmps92
    go_wp2_with fail
    refine (rplus_any _ _ a b _ HV.out HU.out ((FA.out.add FB.out).mono (by omega))).mono ?_
    rintro e w1 ⟨r, rfl, hr, _, hb⟩
    obtain ⟨a3, l3, c3, rfl⟩ := hr.shape
    have HR := Lib.hid hr
    have HB := Lib.hid hb
    clear hr hb
    go_wp2_with fail
    refine (rchecked_any p _ (a + b) _ q1 q2 HR.out ((FA.out.add FB.out).mono (by omega)) HQ).mono ?_
    rintro e w2 ⟨rfl, hb2⟩
    go_wp2
    go_ret2
    exact ⟨rfl, HB.out.trans (hb2.mono HB.out.size)⟩
  · have hpn : (p == q) = false := by simpa using hpq
    by_cases hab : b ≤ a
    · have HQ : Hid (res (sv p (a - b)) = (q1.data.toList, q2)) := by
        show _ = _; rw [← hq.out]; congr 1; unfold sv
        cases p <;> cases q <;> simp at hpq ⊢ <;> omega
      have HAB := Lib.hid hab
      obtain ⟨c, hc⟩ : ∃ c, c = cmpI a b := ⟨_, rfl⟩
      have hc0 : 0 ≤ c := by rw [hc]; unfold cmpI; rw [if_neg (by omega)]; split <;> decide
      have HC := Lib.hid hc
      clear hq hc hab hpq
      go_enter Tryz.func92, Tryz.ntmps92
      go_wp2_with fail
      refine (rorder_any _ _ a b _ HV.out HU.out (FA.out.mono (by omega))).mono ?_
      rw [← HC.out]
      rintro e w0 ⟨rfl, hb0⟩
      have HB0 := Lib.hid hb0
      clear hb0
      go_wp2_with fail
      refine (rminus_any _ _ a b _ (HV.out.below (Nat.le_refl _) HB0.out) (HU.out.below (Nat.le_refl _) HB0.out) (FA.out.mono (by omega)) HAB.out).mono ?_
      rintro e w1 ⟨r, rfl, hr, _, hb⟩
      obtain ⟨a3, l3, c3, rfl⟩ := hr.shape
      have HR := Lib.hid hr
      have HB : Hid (Below w.heap.size w w1) := HB0.out.trans (hb.mono HB0.out.size)
      clear hr hb
      go_wp2_with fail
      refine (rchecked_any p _ (a - b) _ q1 q2 HR.out ((FA.out.le (Nat.sub_le _ _)).mono (by omega)) HQ).mono ?_
      rintro e w2 ⟨rfl, hb2⟩
      go_wp2
      go_ret2
      exact ⟨rfl, HB.out.trans (hb2.mono HB.out.size)⟩
    · have HQ : Hid (res (sv q (b - a)) = (q1.data.toList, q2)) := by
        show _ = _; rw [← hq.out]; congr 1; unfold sv
        cases p <;> cases q <;> simp at hpq ⊢ <;> omega
      have HAB : Hid (a ≤ b) := Nat.le_of_lt (Nat.lt_of_not_le hab)
      obtain ⟨c, hc⟩ : ∃ c, c = cmpI a b := ⟨_, rfl⟩
      have hc0 : ¬ 0 ≤ c := by rw [hc]; unfold cmpI; rw [if_pos (by omega)]; decide
      have HC := Lib.hid hc
      clear hq hc hab hpq
      go_enter Tryz.func92, Tryz.ntmps92
      go_wp2_with fail
      refine (rorder_any _ _ a b _ HV.out HU.out (FA.out.mono (by omega))).mono ?_
      rw [← HC.out]
      rintro e w0 ⟨rfl, hb0⟩
      have HB0 := Lib.hid hb0
      clear hb0
      go_wp2_with fail
      refine (rminus_any _ _ b a _ (HU.out.below (Nat.le_refl _) HB0.out) (HV.out.below (Nat.le_refl _) HB0.out) (FB.out.mono (by omega)) HAB.out).mono ?_
      rintro e w1 ⟨r, rfl, hr, _, hb⟩
      obtain ⟨a3, l3, c3, rfl⟩ := hr.shape
      have HR := Lib.hid hr
      have HB : Hid (Below w.heap.size w w1) := HB0.out.trans (hb.mono HB0.out.size)
      clear hr hb
      go_wp2_with fail
      refine (rchecked_any q _ (b - a) _ q1 q2 HR.out ((FB.out.le (Nat.sub_le _ _)).mono (by omega)) HQ).mono ?_
      rintro e w2 ⟨rfl, hb2⟩
      go_wp2
      go_ret2
      exact ⟨rfl, HB.out.trans (hb2.mono HB.out.size)⟩

theorem dlim_num {s : ByteArray} (h : valid s.data.toList = true) : DLim 200 (num s.data.toList).natAbs := DLim.iff.2 (num_lt h)
theorem rvalid_to {s : ByteArray} (c : Bool) (w : World) (hs : s.size ≤ 1000) (h : valid s.data.toList = c) :
    Calls Tryz.prog 61 #[.string s] w fun e w' => e = .returned (.bool c) ∧ w = w' := by
  rw [← h]; exact rvalid_any s (by omega) w
/-- What 'digits' returns of a valid string. -/
theorem digits_to {s : ByteArray} (p : Bool) (a : Nat) (w : World) (h : Hid (valid s.data.toList = true ∧ sv p a = num s.data.toList ∧ p = decide (num s.data.toList < 0))) :
    Calls Tryz.prog 62 #[.string s] w fun e w' => ∃ al l c, e = .returned (.tuple #[.bool p, .slice al l c]) ∧ Hid (DNum w' (.slice al l c) a) ∧ Hid (Below w.heap.size w w') := by
  refine (digits_any s h.out.1 w).mono ?_
  rintro e w' ⟨v, rfl, hd, hb⟩
  obtain ⟨al, l, c, rfl⟩ := hd.shape
  have ha : (num s.data.toList).natAbs = a := by rw [← h.out.2.1, sv_abs]
  exact ⟨al, l, c, by rw [h.out.2.2], by show DNum _ _ _; rw [← ha]; exact hd, hb⟩

end Go.Proofs.Tryz

namespace Go.Proofs.Tryz
open Go.RowKit Go.Shelf Go.Proofs.Dt

theorem sv_mulb (p q : Bool) (a b : Nat) : sv (p != q) (a * b) = sv p a * sv q b := by
  cases p <;> cases q <;> (show (_ : Int) = _) <;> simp only [sv, Int.natCast_mul] <;> grind
theorem bin_empty {f : Int → Int → Int} {s t : List UInt8} {q1 : ByteArray} {q2 : Int} (h : (valid s && valid t) = false) (hq : bin f s t = (q1.data.toList, q2)) : q1 = ⟨#[]⟩ ∧ q2 = 30 := by
  rw [bin_no h] at hq
  have h2 := (Prod.mk.inj hq).1
  refine ⟨?_, (Prod.mk.inj hq).2.symm⟩
  obtain ⟨⟨l⟩⟩ := q1
  have : l = [] := h2.symm
  rw [this]

set_option maxHeartbeats 4000000 in
theorem radd_any (s t : ByteArray) (hs : s.size ≤ 1000) (ht : t.size ≤ 1000) (w : World) (q1 : ByteArray) (q2 : Int) (hq : Hid (addS s.data.toList t.data.toList = (q1.data.toList, q2))) :
    Calls Tryz.prog 66 #[.string s, .string t] w fun e w' => e = .returned (.tuple #[.string q1, .int .i64 q2]) ∧ Below w.heap.size w w' := by
  by_cases hvs : valid s.data.toList = true
  · by_cases hvt : valid t.data.toList = true
    · obtain ⟨p, hp⟩ : ∃ p, p = decide (num s.data.toList < 0) := ⟨_, rfl⟩
      obtain ⟨a, ha⟩ : ∃ a, a = (num s.data.toList).natAbs := ⟨_, rfl⟩
      obtain ⟨q, hqq⟩ : ∃ q, q = decide (num t.data.toList < 0) := ⟨_, rfl⟩
      obtain ⟨b, hb⟩ : ∃ b, b = (num t.data.toList).natAbs := ⟨_, rfl⟩
      have hsa : sv p a = num s.data.toList := by rw [hp, ha, sv_num]
      have hsb : sv q b = num t.data.toList := by rw [hqq, hb, sv_num]
      have HDS : Hid (valid s.data.toList = true ∧ sv p a = num s.data.toList ∧ p = decide (num s.data.toList < 0)) := ⟨hvs, hsa, hp⟩
      have HDT : Hid (valid t.data.toList = true ∧ sv q b = num t.data.toList ∧ q = decide (num t.data.toList < 0)) := ⟨hvt, hsb, hqq⟩
      have FA : Hid (DLim 200 a) := by show DLim _ _; rw [ha]; exact dlim_num hvs
      have FB : Hid (DLim 200 b) := by show DLim _ _; rw [hb]; exact dlim_num hvt
      have HQ : Hid (res (sv p a + sv q b) = (q1.data.toList, q2)) := by show _ = _; rw [hsa, hsb, ← hq.out]; exact (bin_yes hvs hvt).symm
      clear hvs hvt hq hp ha hqq hb hsa hsb
      go_enter Tryz.func66, Tryz.ntmps66
      go_wp2_with fail
      refine (rvalid_to true _ hs HDS.out.1).mono ?_
      rintro e w1 ⟨rfl, rfl⟩
      go_wp2_with fail
      refine (rvalid_to true _ ht HDT.out.1).mono ?_
      rintro e w2 ⟨rfl, rfl⟩
      go_wp2_with fail
      refine (digits_to p a _ HDS).mono ?_
      rintro e w3 ⟨ax, lx, cx, rfl, HN3, HB3⟩
      go_wp2_with fail
      refine (digits_to q b _ HDT).mono ?_
      rintro e w4 ⟨ay, ly, cy, rfl, HM4, HB4⟩
      have HN4 : Hid (DNum w4 (.slice ax lx cx) a) := HN3.out.below (Nat.le_refl _) HB4.out
      have HB : Hid (Below w.heap.size w w4) := HB3.out.trans (HB4.out.mono HB3.out.size)
      clear HN3 HB3 HB4
      go_wp2_with fail
      refine (rsum_any p q _ _ a b _ q1 q2 HN4.out HM4.out (FA.out.mono (by omega)) (FB.out.mono (by omega)) HQ).mono ?_
      rintro e w5 ⟨rfl, hb5⟩
      go_wp2
      go_ret2
      exact ⟨rfl, HB.out.trans (hb5.mono HB.out.size)⟩
    · have HT : Hid (valid t.data.toList = false) := by show _ = _; simpa using hvt
      have HS := Lib.hid hvs
      obtain ⟨rfl, rfl⟩ := bin_empty (by rw [HS.out, HT.out]; rfl) hq.out
      clear hvs hvt hq
      go_enter Tryz.func66, Tryz.ntmps66
      go_wp2_with fail
      refine (rvalid_to true _ hs HS.out).mono ?_
      rintro e w1 ⟨rfl, rfl⟩
      go_wp2_with fail
      refine (rvalid_to false _ ht HT.out).mono ?_
      rintro e w2 ⟨rfl, rfl⟩
      go_wp2
      go_ret2
      exact ⟨rfl, Below.refl _ _⟩
  · have HS : Hid (valid s.data.toList = false) := by show _ = _; simpa using hvs
    obtain ⟨rfl, rfl⟩ := bin_empty (by rw [HS.out]; rfl) hq.out
    clear hvs hq
    go_enter Tryz.func66, Tryz.ntmps66
    go_wp2_with fail
    refine (rvalid_to false _ hs HS.out).mono ?_
    rintro e w1 ⟨rfl, rfl⟩
    go_wp2
    go_ret2
    exact ⟨rfl, Below.refl _ _⟩

set_option maxHeartbeats 4000000 in
theorem rsub_any (s t : ByteArray) (hs : s.size ≤ 1000) (ht : t.size ≤ 1000) (w : World) (q1 : ByteArray) (q2 : Int) (hq : Hid (subS s.data.toList t.data.toList = (q1.data.toList, q2))) :
    Calls Tryz.prog 67 #[.string s, .string t] w fun e w' => e = .returned (.tuple #[.string q1, .int .i64 q2]) ∧ Below w.heap.size w w' := by
  by_cases hvs : valid s.data.toList = true
  · by_cases hvt : valid t.data.toList = true
    · obtain ⟨p, hp⟩ : ∃ p, p = decide (num s.data.toList < 0) := ⟨_, rfl⟩
      obtain ⟨a, ha⟩ : ∃ a, a = (num s.data.toList).natAbs := ⟨_, rfl⟩
      obtain ⟨q, hqq⟩ : ∃ q, q = decide (num t.data.toList < 0) := ⟨_, rfl⟩
      obtain ⟨b, hb⟩ : ∃ b, b = (num t.data.toList).natAbs := ⟨_, rfl⟩
      have hsa : sv p a = num s.data.toList := by rw [hp, ha, sv_num]
      have hsb : sv q b = num t.data.toList := by rw [hqq, hb, sv_num]
      have HDS : Hid (valid s.data.toList = true ∧ sv p a = num s.data.toList ∧ p = decide (num s.data.toList < 0)) := ⟨hvs, hsa, hp⟩
      have HDT : Hid (valid t.data.toList = true ∧ sv q b = num t.data.toList ∧ q = decide (num t.data.toList < 0)) := ⟨hvt, hsb, hqq⟩
      have FA : Hid (DLim 200 a) := by show DLim _ _; rw [ha]; exact dlim_num hvs
      have FB : Hid (DLim 200 b) := by show DLim _ _; rw [hb]; exact dlim_num hvt
      have HQ : Hid (res (sv p a + sv (!q) b) = (q1.data.toList, q2)) := by
        show _ = _
        rw [show sv p a + sv (!q) b = sv p a - sv q b by cases q <;> simp [sv] <;> omega, hsa, hsb, ← hq.out]; exact (bin_yes hvs hvt).symm
      clear hvs hvt hq hp ha hqq hb hsa hsb
      go_enter Tryz.func67, Tryz.ntmps67
      go_wp2_with fail
      refine (rvalid_to true _ hs HDS.out.1).mono ?_
      rintro e w1 ⟨rfl, rfl⟩
      go_wp2_with fail
      refine (rvalid_to true _ ht HDT.out.1).mono ?_
      rintro e w2 ⟨rfl, rfl⟩
      go_wp2_with fail
      refine (digits_to p a _ HDS).mono ?_
      rintro e w3 ⟨ax, lx, cx, rfl, HN3, HB3⟩
      go_wp2_with fail
      refine (digits_to q b _ HDT).mono ?_
      rintro e w4 ⟨ay, ly, cy, rfl, HM4, HB4⟩
      have HN4 : Hid (DNum w4 (.slice ax lx cx) a) := HN3.out.below (Nat.le_refl _) HB4.out
      have HB : Hid (Below w.heap.size w w4) := HB3.out.trans (HB4.out.mono HB3.out.size)
      clear HN3 HB3 HB4
      go_wp2_with fail
      refine (rsum_any p (!q) _ _ a b _ q1 q2 HN4.out HM4.out (FA.out.mono (by omega)) (FB.out.mono (by omega)) HQ).mono ?_
      rintro e w5 ⟨rfl, hb5⟩
      go_wp2
      go_ret2
      exact ⟨rfl, HB.out.trans (hb5.mono HB.out.size)⟩
    · have HT : Hid (valid t.data.toList = false) := by show _ = _; simpa using hvt
      have HS := Lib.hid hvs
      obtain ⟨rfl, rfl⟩ := bin_empty (by rw [HS.out, HT.out]; rfl) hq.out
      clear hvs hvt hq
      go_enter Tryz.func67, Tryz.ntmps67
      go_wp2_with fail
      refine (rvalid_to true _ hs HS.out).mono ?_
      rintro e w1 ⟨rfl, rfl⟩
      go_wp2_with fail
      refine (rvalid_to false _ ht HT.out).mono ?_
      rintro e w2 ⟨rfl, rfl⟩
      go_wp2
      go_ret2
      exact ⟨rfl, Below.refl _ _⟩
  · have HS : Hid (valid s.data.toList = false) := by show _ = _; simpa using hvs
    obtain ⟨rfl, rfl⟩ := bin_empty (by rw [HS.out]; rfl) hq.out
    clear hvs hq
    go_enter Tryz.func67, Tryz.ntmps67
    go_wp2_with fail
    refine (rvalid_to false _ hs HS.out).mono ?_
    rintro e w1 ⟨rfl, rfl⟩
    go_wp2
    go_ret2
    exact ⟨rfl, Below.refl _ _⟩

set_option maxHeartbeats 4000000 in
theorem rmul_any (s t : ByteArray) (hs : s.size ≤ 1000) (ht : t.size ≤ 1000) (w : World) (q1 : ByteArray) (q2 : Int) (hq : Hid (mulS s.data.toList t.data.toList = (q1.data.toList, q2))) :
    Calls Tryz.prog 30 #[.string s, .string t] w fun e w' => e = .returned (.tuple #[.string q1, .int .i64 q2]) ∧ Below w.heap.size w w' := by
  by_cases hvs : valid s.data.toList = true
  · by_cases hvt : valid t.data.toList = true
    · obtain ⟨p, hp⟩ : ∃ p, p = decide (num s.data.toList < 0) := ⟨_, rfl⟩
      obtain ⟨a, ha⟩ : ∃ a, a = (num s.data.toList).natAbs := ⟨_, rfl⟩
      obtain ⟨q, hqq⟩ : ∃ q, q = decide (num t.data.toList < 0) := ⟨_, rfl⟩
      obtain ⟨b, hb⟩ : ∃ b, b = (num t.data.toList).natAbs := ⟨_, rfl⟩
      have hsa : sv p a = num s.data.toList := by rw [hp, ha, sv_num]
      have hsb : sv q b = num t.data.toList := by rw [hqq, hb, sv_num]
      have HDS : Hid (valid s.data.toList = true ∧ sv p a = num s.data.toList ∧ p = decide (num s.data.toList < 0)) := ⟨hvs, hsa, hp⟩
      have HDT : Hid (valid t.data.toList = true ∧ sv q b = num t.data.toList ∧ q = decide (num t.data.toList < 0)) := ⟨hvt, hsb, hqq⟩
      have FA : Hid (DLim 200 a) := by show DLim _ _; rw [ha]; exact dlim_num hvs
      have FB : Hid (DLim 200 b) := by show DLim _ _; rw [hb]; exact dlim_num hvt
      have HQ : Hid (res (sv (p != q) (a * b)) = (q1.data.toList, q2)) := by
        show _ = _
        rw [show sv (p != q) (a * b) = sv p a * sv q b from sv_mulb p q a b, hsa, hsb, ← hq.out]; exact (bin_yes hvs hvt).symm
      clear hvs hvt hq hp ha hqq hb hsa hsb
      go_enter Tryz.func30, Tryz.ntmps30
      go_wp2_with fail
      refine (rvalid_to true _ hs HDS.out.1).mono ?_
      rintro e w1 ⟨rfl, rfl⟩
      go_wp2_with fail
      refine (rvalid_to true _ ht HDT.out.1).mono ?_
      rintro e w2 ⟨rfl, rfl⟩
      go_wp2_with fail
      refine (digits_to p a _ HDS).mono ?_
      rintro e w3 ⟨ax, lx, cx, rfl, HN3, HB3⟩
      go_wp2_with fail
      refine (digits_to q b _ HDT).mono ?_
      rintro e w4 ⟨ay, ly, cy, rfl, HM4, HB4⟩
      have HN4 : Hid (DNum w4 (.slice ax lx cx) a) := HN3.out.below (Nat.le_refl _) HB4.out
      have HB : Hid (Below w.heap.size w w4) := HB3.out.trans (HB4.out.mono HB3.out.size)
      clear HN3 HB3 HB4
      go_wp2_with fail
      refine (rtimes_any _ _ a b _ HN4.out HM4.out (FA.out.mono (by omega)) (FB.out.mono (by omega))).mono ?_
      rintro e w5 ⟨r, rfl, hr, _, hb5⟩
      obtain ⟨a5, l5, c5, rfl⟩ := hr.shape
      have HR := Lib.hid hr
      have HB5 : Hid (Below w.heap.size w w5) := HB.out.trans (hb5.mono HB.out.size)
      clear hr hb5
      go_wp2_with fail
      refine (rchecked_any (p != q) _ (a * b) _ q1 q2 HR.out ((FA.out.mul FB.out).mono (by omega)) HQ).mono ?_
      rintro e w6 ⟨rfl, hb6⟩
      go_wp2
      go_ret2
      exact ⟨rfl, HB5.out.trans (hb6.mono HB5.out.size)⟩
    · have HT : Hid (valid t.data.toList = false) := by show _ = _; simpa using hvt
      have HS := Lib.hid hvs
      obtain ⟨rfl, rfl⟩ := bin_empty (by rw [HS.out, HT.out]; rfl) hq.out
      clear hvs hvt hq
      go_enter Tryz.func30, Tryz.ntmps30
      go_wp2_with fail
      refine (rvalid_to true _ hs HS.out).mono ?_
      rintro e w1 ⟨rfl, rfl⟩
      go_wp2_with fail
      refine (rvalid_to false _ ht HT.out).mono ?_
      rintro e w2 ⟨rfl, rfl⟩
      go_wp2
      go_ret2
      exact ⟨rfl, Below.refl _ _⟩
  · have HS : Hid (valid s.data.toList = false) := by show _ = _; simpa using hvs
    obtain ⟨rfl, rfl⟩ := bin_empty (by rw [HS.out]; rfl) hq.out
    clear hvs hq
    go_enter Tryz.func30, Tryz.ntmps30
    go_wp2_with fail
    refine (rvalid_to false _ hs HS.out).mono ?_
    rintro e w1 ⟨rfl, rfl⟩
    go_wp2
    go_ret2
    exact ⟨rfl, Below.refl _ _⟩

end Go.Proofs.Tryz

namespace Go.Proofs.Tryz
open Go.RowKit Go.Shelf Go.Proofs.Dt

theorem DNum.len0 {W : World} {a : Option Addr} {l c n : Nat} (h : DNum W (.slice a l c) n) : l = 0 ↔ n = 0 := by
  obtain ⟨xs, ix, rx⟩ := h
  obtain ⟨a', c', e⟩ := ix.shape
  simp only [Value.slice.injEq] at e
  rw [e.2.1, List.length_eq_zero_iff]
  exact rx.pos (by decide)

set_option maxHeartbeats 4000000 in
theorem rgcd_any (s t : ByteArray) (hs : s.size ≤ 1000) (ht : t.size ≤ 1000) (w : World) (q1 : ByteArray) (q2 : Int) (hq : Hid (gcdS s.data.toList t.data.toList = (q1.data.toList, q2))) :
    Calls Tryz.prog 72 #[.string s, .string t] w fun e w' => e = .returned (.tuple #[.string q1, .int .i64 q2]) ∧ Below w.heap.size w w' := by
  by_cases hvs : valid s.data.toList = true
  · by_cases hvt : valid t.data.toList = true
    · obtain ⟨p, hp⟩ : ∃ p, p = decide (num s.data.toList < 0) := ⟨_, rfl⟩
      obtain ⟨a, ha⟩ : ∃ a, a = (num s.data.toList).natAbs := ⟨_, rfl⟩
      obtain ⟨q, hqq⟩ : ∃ q, q = decide (num t.data.toList < 0) := ⟨_, rfl⟩
      obtain ⟨b, hb⟩ : ∃ b, b = (num t.data.toList).natAbs := ⟨_, rfl⟩
      have hsa : sv p a = num s.data.toList := by rw [hp, ha, sv_num]
      have hsb : sv q b = num t.data.toList := by rw [hqq, hb, sv_num]
      have HDS : Hid (valid s.data.toList = true ∧ sv p a = num s.data.toList ∧ p = decide (num s.data.toList < 0)) := ⟨hvs, hsa, hp⟩
      have HDT : Hid (valid t.data.toList = true ∧ sv q b = num t.data.toList ∧ q = decide (num t.data.toList < 0)) := ⟨hvt, hsb, hqq⟩
      have FA : Hid (DLim 200 a) := by show DLim _ _; rw [ha]; exact dlim_num hvs
      have FB : Hid (DLim 200 b) := by show DLim _ _; rw [hb]; exact dlim_num hvt
      have HQ : Hid (res (sv false (Nat.gcd a b)) = (q1.data.toList, q2)) := by
        show _ = _
        rw [← hq.out, show gcdS s.data.toList t.data.toList = res (Int.gcd (num s.data.toList) (num t.data.toList) : Int) from bin_yes hvs hvt, Int.gcd, ← ha, ← hb]; rfl
      clear hvs hvt hq hp ha hqq hb hsa hsb
      go_enter Tryz.func72, Tryz.ntmps72
      go_wp2_with fail
      refine (rvalid_to true _ hs HDS.out.1).mono ?_
      rintro e w1 ⟨rfl, rfl⟩
      go_wp2_with fail
      refine (rvalid_to true _ ht HDT.out.1).mono ?_
      rintro e w2 ⟨rfl, rfl⟩
      go_wp2_with fail
      refine (digits_to p a _ HDS).mono ?_
      rintro e w3 ⟨ax, lx, cx, rfl, HN3, HB3⟩
      go_wp2_with fail
      refine (digits_to q b _ HDT).mono ?_
      rintro e w4 ⟨ay, ly, cy, rfl, HM4, HB4⟩
      have HN4 : Hid (DNum w4 (.slice ax lx cx) a) := HN3.out.below (Nat.le_refl _) HB4.out
      have HB : Hid (Below w.heap.size w w4) := HB3.out.trans (HB4.out.mono HB3.out.size)
      clear HN3 HB3 HB4
      go_wp2_with fail
      go_loopw [7, 9] (fun k l wr => ∃ (m1 m2 : Nat) (ak : Option Addr) (lk ck : Nat) (al : Option Addr) (ll cl : Nat), k = .slice ak lk ck ∧ l = .slice al ll cl ∧ Hid (DNum wr (.slice ak lk ck) m1 ∧ DNum wr (.slice al ll cl) m2 ∧ Nat.gcd m1 m2 = Nat.gcd a b ∧ DLim 200 m1 ∧ DLim 200 m2 ∧ Below w.heap.size w wr)) (fun _ l wr => dnumOf wr l)
      case atStart => exact ⟨a, b, _, _, _, _, _, _, rfl, rfl, HN4.out, HM4.out, rfl, FA.out, FB.out, HB.out⟩
      case round =>
        clear HN4 HM4 HB
        obtain ⟨m1, m2, ak, lk, ck, al, ll, cl, rfl, rfl, HR⟩ := hrel
        have hl0 := HR.out.2.1.len0
        by_cases hm0 : m2 = 0
        · obtain rfl : ll = 0 := hl0.2 hm0
          have hfin : Hid (DNum wr (.slice ak lk ck) (Nat.gcd a b)) := by
            show DNum _ _ _
            rw [← HR.out.2.2.1, hm0, Nat.gcd_zero_right]; exact HR.out.1
          have HBr := Lib.hid HR.out.2.2.2.2.2
          have HL : Hid (DLim 200 (Nat.gcd a b)) := by show DLim _ _; rw [← HR.out.2.2.1, hm0, Nat.gcd_zero_right]; exact HR.out.2.2.2.1
          clear hl0 hm0 HR
          go_wp2_with fail
          refine (rchecked_any false _ (Nat.gcd a b) _ q1 q2 hfin.out (HL.out.mono (by omega)) HQ).mono ?_
          rintro e w5 ⟨rfl, hb5⟩
          go_wp2
          go_ret2
          exact ⟨rfl, HBr.out.trans (hb5.mono HBr.out.size)⟩
        · have hll : 0 < ll := Nat.pos_of_ne_zero (fun e => hm0 (hl0.1 e))
          have HM := Lib.hid hm0
          clear hl0 hm0
          go_wp2_with fail
          refine (rdivided_any _ _ m1 m2 _ HR.out.1 HR.out.2.1 (HR.out.2.2.2.1.mono (by omega)) (HR.out.2.2.2.2.1.mono (by omega)) (Nat.pos_of_ne_zero HM.out)).mono ?_
          rintro e w5 ⟨qv, rv, rfl, hq5, hr5, hb5⟩
          obtain ⟨aq, lq, cq, rfl⟩ := hq5.shape
          obtain ⟨ar, lr, cr, rfl⟩ := hr5.shape
          have HN : Hid (DNum w5 (.slice al ll cl) m2 ∧ DNum w5 (.slice ar lr cr) (m1 % m2) ∧ Nat.gcd m2 (m1 % m2) = Nat.gcd a b ∧ DLim 200 m2 ∧ DLim 200 (m1 % m2) ∧ Below w.heap.size w w5) :=
            ⟨HR.out.2.1.below (Nat.le_refl _) hb5, hr5, by rw [← HR.out.2.2.1, Nat.gcd_comm m2, ← Nat.gcd_rec, Nat.gcd_comm], HR.out.2.2.2.2.1, HR.out.2.2.2.1.le (Nat.mod_le _ _), HR.out.2.2.2.2.2.trans (hb5.mono HR.out.2.2.2.2.2.size)⟩
          have HLT : Hid (dnumOf w5 (.slice ar lr cr) < dnumOf wr (.slice al ll cl)) := by
            show _ < _
            rw [dnumOf_eq hr5, dnumOf_eq HR.out.2.1]
            exact Nat.mod_lt m1 (Nat.pos_of_ne_zero HM.out)
          clear hq5 hr5
          go_wp2
          go_roundw
          case rel => exact ⟨m2, m1 % m2, _, _, _, _, _, _, rfl, rfl, HN⟩
          case measure => exact HLT.out
    · have HT : Hid (valid t.data.toList = false) := by show _ = _; simpa using hvt
      have HS := Lib.hid hvs
      obtain ⟨rfl, rfl⟩ := bin_empty (by rw [HS.out, HT.out]; rfl) hq.out
      clear hvs hvt hq
      go_enter Tryz.func72, Tryz.ntmps72
      go_wp2_with fail
      refine (rvalid_to true _ hs HS.out).mono ?_
      rintro e w1 ⟨rfl, rfl⟩
      go_wp2_with fail
      refine (rvalid_to false _ ht HT.out).mono ?_
      rintro e w2 ⟨rfl, rfl⟩
      go_wp2
      go_ret2
      exact ⟨rfl, Below.refl _ _⟩
  · have HS : Hid (valid s.data.toList = false) := by show _ = _; simpa using hvs
    obtain ⟨rfl, rfl⟩ := bin_empty (by rw [HS.out]; rfl) hq.out
    clear hvs hq
    go_enter Tryz.func72, Tryz.ntmps72
    go_wp2_with fail
    refine (rvalid_to false _ hs HS.out).mono ?_
    rintro e w1 ⟨rfl, rfl⟩
    go_wp2
    go_ret2
    exact ⟨rfl, Below.refl _ _⟩

theorem cmpS_no {s t : List UInt8} (h : (valid s && valid t) = false) : cmpS s t = 0 := by unfold cmpS; rw [h]; rfl
theorem cmpS_yes {s t : List UInt8} (h : valid s = true) (k : valid t = true) : cmpS s t = sgn (num s - num t) := by unfold cmpS; rw [h, k]; rfl

set_option maxHeartbeats 4000000 in
theorem rcompare_any (s t : ByteArray) (hs : s.size ≤ 1000) (ht : t.size ≤ 1000) (w : World) (c : Int) (hq : Hid (cmpS s.data.toList t.data.toList = c)) :
    Calls Tryz.prog 69 #[.string s, .string t] w fun e w' => e = .returned (.int .i64 c) ∧ Below w.heap.size w w' := by
  by_cases hvs : valid s.data.toList = true
  · by_cases hvt : valid t.data.toList = true
    · obtain ⟨p, hp⟩ : ∃ p, p = decide (num s.data.toList < 0) := ⟨_, rfl⟩
      obtain ⟨a, ha⟩ : ∃ a, a = (num s.data.toList).natAbs := ⟨_, rfl⟩
      obtain ⟨q, hqq⟩ : ∃ q, q = decide (num t.data.toList < 0) := ⟨_, rfl⟩
      obtain ⟨b, hb⟩ : ∃ b, b = (num t.data.toList).natAbs := ⟨_, rfl⟩
      have hsa : sv p a = num s.data.toList := by rw [hp, ha, sv_num]
      have hsb : sv q b = num t.data.toList := by rw [hqq, hb, sv_num]
      have HDS : Hid (valid s.data.toList = true ∧ sv p a = num s.data.toList ∧ p = decide (num s.data.toList < 0)) := ⟨hvs, hsa, hp⟩
      have HDT : Hid (valid t.data.toList = true ∧ sv q b = num t.data.toList ∧ q = decide (num t.data.toList < 0)) := ⟨hvt, hsb, hqq⟩
      have FA : Hid (DLim 200 a) := by show DLim _ _; rw [ha]; exact dlim_num hvs
      have FB : Hid (DLim 200 b) := by show DLim _ _; rw [hb]; exact dlim_num hvt
      have HQ : Hid ((if p && q then cmpI b a else if p then -1 else if q then 1 else cmpI a b) = c) := by
        show _ = _
        rw [← hq.out, cmpS_yes hvs hvt]; exact cmpI_sgn p q a b _ _ hsa hsb hp hqq
      clear hvs hvt hq hp ha hqq hb hsa hsb
      go_enter Tryz.func69, Tryz.ntmps69
      go_wp2_with fail
      refine (rvalid_to true _ hs HDS.out.1).mono ?_
      rintro e w1 ⟨rfl, rfl⟩
      go_wp2_with fail
      refine (rvalid_to true _ ht HDT.out.1).mono ?_
      rintro e w2 ⟨rfl, rfl⟩
      go_wp2_with fail
      refine (digits_to p a _ HDS).mono ?_
      rintro e w3 ⟨ax, lx, cx, rfl, HN3, HB3⟩
      go_wp2_with fail
      refine (digits_to q b _ HDT).mono ?_
      rintro e w4 ⟨ay, ly, cy, rfl, HM4, HB4⟩
      have HN4 : Hid (DNum w4 (.slice ax lx cx) a) := HN3.out.below (Nat.le_refl _) HB4.out
      have HB : Hid (Below w.heap.size w w4) := HB3.out.trans (HB4.out.mono HB3.out.size)
      clear HN3 HB3 HB4
      cases p with
      | true =>
        cases q with
        | true =>
          rw [show (if (true && true) = true then cmpI b a else if true = true then (-1 : Int) else if true = true then 1 else cmpI a b) = cmpI b a from rfl] at HQ
          go_wp2_with fail
          refine (rorder_any _ _ b a _ HM4.out HN4.out (FB.out.mono (by omega))).mono ?_
          rw [HQ.out]
          rintro e w5 ⟨rfl, hb5⟩
          go_wp2
          go_ret
          exact ⟨rfl, HB.out.trans (hb5.mono HB.out.size)⟩
        | false =>
          obtain rfl : (-1 : Int) = c := HQ.out
          go_wp2
          go_ret
          exact ⟨rfl, HB.out⟩
      | false =>
        cases q with
        | true =>
          obtain rfl : (1 : Int) = c := HQ.out
          go_wp2
          go_ret
          exact ⟨rfl, HB.out⟩
        | false =>
          rw [show (if (false && false) = true then cmpI b a else if false = true then (-1 : Int) else if false = true then 1 else cmpI a b) = cmpI a b from rfl] at HQ
          go_wp2_with fail
          refine (rorder_any _ _ a b _ HN4.out HM4.out (FA.out.mono (by omega))).mono ?_
          rw [HQ.out]
          rintro e w5 ⟨rfl, hb5⟩
          go_wp2
          go_ret
          exact ⟨rfl, HB.out.trans (hb5.mono HB.out.size)⟩
    · have HT : Hid (valid t.data.toList = false) := by show _ = _; simpa using hvt
      have HS := Lib.hid hvs
      obtain rfl : c = 0 := by rw [← hq.out]; exact cmpS_no (by rw [HS.out, HT.out]; rfl)
      clear hvs hvt hq
      go_enter Tryz.func69, Tryz.ntmps69
      go_wp2_with fail
      refine (rvalid_to true _ hs HS.out).mono ?_
      rintro e w1 ⟨rfl, rfl⟩
      go_wp2_with fail
      refine (rvalid_to false _ ht HT.out).mono ?_
      rintro e w2 ⟨rfl, rfl⟩
      go_wp2
      go_ret
      exact ⟨rfl, Below.refl _ _⟩
  · have HS : Hid (valid s.data.toList = false) := by show _ = _; simpa using hvs
    obtain rfl : c = 0 := by rw [← hq.out]; exact cmpS_no (by rw [HS.out]; rfl)
    clear hvs hq
    go_enter Tryz.func69, Tryz.ntmps69
    go_wp2_with fail
    refine (rvalid_to false _ hs HS.out).mono ?_
    rintro e w1 ⟨rfl, rfl⟩
    go_wp2
    go_ret
    exact ⟨rfl, Below.refl _ _⟩

end Go.Proofs.Tryz

namespace Go.Proofs.Tryz
open Go.RowKit Go.Shelf Go.Proofs.Dt

theorem rtext_d {v : Value} {n : Nat} {w : World} (x : ByteArray) (h : DNum w v n) (hf : DLim 1000 n) (hx : Hid (str (n : Int) = x.data.toList)) :
    Calls Tryz.prog 60 #[.bool false, v] w fun e w' => ∃ b : Bool, e = .returned (.tuple #[.string x, .bool b]) ∧ Below w.heap.size w w' := by
  obtain ⟨xs, ix, rx⟩ := h
  refine (rtext_any false w ix (hf.len rx) rx.good).mono ?_
  rintro e w' ⟨rfl, hb⟩
  refine ⟨(rtextS false xs).2, ?_, hb⟩
  rw [rtext_sv rx, show sv false n = (n : Int) from rfl, hx.out]
theorem div_empty {s t : List UInt8} {q1 q2 : ByteArray} {c : Int} (h : divS s t = ([], [], 30)) (hq : divS s t = (q1.data.toList, q2.data.toList, c)) : q1 = ⟨#[]⟩ ∧ q2 = ⟨#[]⟩ ∧ c = 30 := by
  rw [h] at hq
  have h1 := (Prod.mk.inj hq).1
  have h2 := (Prod.mk.inj (Prod.mk.inj hq).2).1
  refine ⟨?_, ?_, (Prod.mk.inj (Prod.mk.inj hq).2).2.symm⟩
  · obtain ⟨⟨l⟩⟩ := q1
    have : l = [] := h1.symm
    rw [this]
  · obtain ⟨⟨l⟩⟩ := q2
    have : l = [] := h2.symm
    rw [this]
theorem dnum_one {W : World} {b : Nat} (hb : b < W.heap.size) (h : W.cell? ⟨b, 0, none⟩ = some (.int .i64 1)) : DNum W (.slice (some ⟨b, 0, none⟩) 1 1) 1 := by
  refine ⟨[1], .inr ⟨b, 0, 1, rfl, Nat.le_refl _, hb, fun j hj => ?_⟩, ⟨Dgs.one (by decide) (by decide), by simp [Nrm], rfl⟩⟩
  have : j = 0 := by simpa using hj
  subst this
  exact h

set_option maxHeartbeats 1000000 in
set_option maxRecDepth 100000 in
theorem rdiv_any (s t : ByteArray) (hs : s.size ≤ 1000) (ht : t.size ≤ 1000) (w : World) (q1 q2 : ByteArray) (c : Int) (hq : Hid (divS s.data.toList t.data.toList = (q1.data.toList, q2.data.toList, c))) :
    Calls Tryz.prog 68 #[.string s, .string t] w fun e w' => e = .returned (.tuple #[.string q1, .string q2, .int .i64 c]) ∧ Below w.heap.size w w' := by
  by_cases hvs : valid s.data.toList = true
  · by_cases hvt : valid t.data.toList = true
    · by_cases h0 : (t.toList == [48]) = true
      · obtain ⟨rfl, rfl, rfl⟩ := div_empty (by unfold divS; rw [hvs, hvt, decide_eq_false (by rw [Decidable.not_not, toList_zero.1 h0]; rfl)]; rfl) hq.out
        have HS := Lib.hid hvs
        have HT := Lib.hid hvt
        clear hvs hvt hq
        go_enter Tryz.func68, Tryz.ntmps68
        go_wp2_with fail
        refine (rvalid_to true _ hs HS.out).mono ?_
        rintro e w1 ⟨rfl, rfl⟩
        go_wp2_with fail
        refine (rvalid_to true _ ht HT.out).mono ?_
        rintro e w2 ⟨rfl, rfl⟩
        go_wp2
        go_ret3
        exact ⟨rfl, Below.refl _ _⟩
      · obtain ⟨p, hp⟩ : ∃ p, p = decide (num s.data.toList < 0) := ⟨_, rfl⟩
        obtain ⟨a, ha⟩ : ∃ a, a = (num s.data.toList).natAbs := ⟨_, rfl⟩
        obtain ⟨q, hqq⟩ : ∃ q, q = decide (num t.data.toList < 0) := ⟨_, rfl⟩
        obtain ⟨b, hb⟩ : ∃ b, b = (num t.data.toList).natAbs := ⟨_, rfl⟩
        have hsa : sv p a = num s.data.toList := by rw [hp, ha, sv_num]
        have hsb : sv q b = num t.data.toList := by rw [hqq, hb, sv_num]
        have HDS : Hid (valid s.data.toList = true ∧ sv p a = num s.data.toList ∧ p = decide (num s.data.toList < 0)) := ⟨hvs, hsa, hp⟩
        have HDT : Hid (valid t.data.toList = true ∧ sv q b = num t.data.toList ∧ q = decide (num t.data.toList < 0)) := ⟨hvt, hsb, hqq⟩
        have FA : Hid (DLim 200 a) := by show DLim _ _; rw [ha]; exact dlim_num hvs
        have FB : Hid (DLim 200 b) := by show DLim _ _; rw [hb]; exact dlim_num hvt
        have h48 : (t.toList == [48]) = false := by
          cases h : (t.toList == [48]) with
          | false => rfl
          | true => exact absurd h h0
        have hb0 : 0 < b := by
          rcases Nat.eq_zero_or_pos b with e | e
          · have hz : num t.data.toList = 0 := by rw [hb] at e; omega
            have := str_num hvt
            rw [hz, str_zero] at this
            exact absurd (toList_zero.2 this.symm) h0
          · exact e
        have HBP := Lib.hid hb0
        have hnz : num t.data.toList ≠ 0 := by rw [hb] at hb0; omega
        have hsg := div_signs p q a b _ _ hsa hsb (by omega)
        have hlim : (num s.data.toList / num t.data.toList).natAbs < limit := Nat.lt_of_le_of_lt (Int.natAbs_ediv_le_natAbs _ _) (num_lt hvs)
        have hdq := hq.out
        rw [divS_yes hvs hvt hnz, if_pos hlim] at hdq
        have hd1 := (Prod.mk.inj hdq).1
        have hd2 := (Prod.mk.inj (Prod.mk.inj hdq).2).1
        obtain rfl : (0 : Int) = c := (Prod.mk.inj (Prod.mk.inj hdq).2).2
        have HSG : Hid ((p = false ∨ a % b = 0 → res (sv (p != q) (a / b)) = (q1.data.toList, 0)) ∧ (p = false ∨ a % b = 0 → str ((a % b : Nat) : Int) = q2.data.toList) ∧ (p = true ∧ a % b ≠ 0 → res (sv (p != q) (a / b + 1)) = (q1.data.toList, 0)) ∧ (p = true ∧ a % b ≠ 0 → str ((b - a % b : Nat) : Int) = q2.data.toList)) := by
          refine ⟨fun h => ?_, fun h => ?_, fun h => ?_, fun h => ?_⟩
          · rw [(hsg.1 h).1, res_ok hlim, hd1]
          · rw [(hsg.1 h).2, hd2]
          · rw [(hsg.2 h).1, res_ok hlim, hd1]
          · rw [(hsg.2 h).2, hd2]
        clear hsg hlim hdq hd1 hd2 hnz hb0 h0
        clear hvs hvt hq hp ha hqq hb hsa hsb
        go_enter Tryz.func68, Tryz.ntmps68
        go_wp2_with fail
        refine (rvalid_to true _ hs HDS.out.1).mono ?_
        rintro e w1 ⟨rfl, rfl⟩
        go_wp2_with fail
        refine (rvalid_to true _ ht HDT.out.1).mono ?_
        rintro e w2 ⟨rfl, rfl⟩
        go_wp2_with fail
        refine (digits_to p a _ HDS).mono ?_
        rintro e w3 ⟨ax, lx, cx, rfl, HN3, HB3⟩
        go_wp2_with fail
        refine (digits_to q b _ HDT).mono ?_
        rintro e w4 ⟨ay, ly, cy, rfl, HM4, HB4⟩
        have HN4 : Hid (DNum w4 (.slice ax lx cx) a) := HN3.out.below (Nat.le_refl _) HB4.out
        have HB : Hid (Below w.heap.size w w4) := HB3.out.trans (HB4.out.mono HB3.out.size)
        clear HN3 HB3 HB4
        go_wp2_with fail
        refine (rdivided_any _ _ a b _ HN4.out HM4.out (FA.out.mono (by omega)) (FB.out.mono (by omega)) HBP.out).mono ?_
        rintro e w5 ⟨qv, rv, rfl, hq5, hr5, hb5⟩
        obtain ⟨aq, lq, cq, rfl⟩ := hq5.shape
        obtain ⟨ar, lr, cr, rfl⟩ := hr5.shape
        have hl0 := hr5.len0
        have HN5 : Hid (DNum w5 (.slice aq lq cq) (a / b) ∧ DNum w5 (.slice ar lr cr) (a % b)) := ⟨hq5, hr5⟩
        have HM5 : Hid (DNum w5 (.slice ay ly cy) b) := HM4.out.below (Nat.le_refl _) hb5
        have HB5 : Hid (Below w.heap.size w w5) := HB.out.trans (hb5.mono HB.out.size)
        clear hq5 hr5 hb5 HN4 HM4 HB
        cases p with
        | false =>
          have HCASE : Hid (false = false ∨ a % b = 0) := .inl rfl
          clear hl0
          have HQ1 : Hid (res (sv q (a / b)) = (q1.data.toList, 0)) := by have h := HSG.out.1 HCASE.out; rw [Bool.false_bne] at h; exact h
          have HQ2 : Hid (str ((a % b : Nat) : Int) = q2.data.toList) := HSG.out.2.1 HCASE.out
          go_wp2_with fail
          refine (rchecked_any q _ (a / b) _ q1 0 HN5.out.1 ((FA.out.le (Nat.div_le_self _ _)).mono (by omega)) HQ1).mono ?_
          rintro e w6 ⟨rfl, hb6⟩
          have HB6 : Hid (Below w.heap.size w w6) := HB5.out.trans (hb6.mono HB5.out.size)
          have HN6 : Hid (DNum w6 (.slice ar lr cr) (a % b)) := HN5.out.2.below (Nat.le_refl _) hb6
          clear hb6
          go_wp2_with fail
          refine (rtext_d q2 HN6.out ((FA.out.le (Nat.mod_le _ _)).mono (by omega)) HQ2).mono ?_
          rintro e w7 ⟨bb, rfl, hb7⟩
          go_wp2
          go_ret3
          exact ⟨rfl, HB6.out.trans (hb7.mono HB6.out.size)⟩
        | true =>
          by_cases hm : a % b = 0
          · obtain rfl : lr = 0 := hl0.2 hm
            have HCASE : Hid (true = false ∨ a % b = 0) := .inr hm
            clear hl0 hm
            have HQ1 : Hid (res (sv (!q) (a / b)) = (q1.data.toList, 0)) := by have h := HSG.out.1 HCASE.out; rw [Bool.true_bne] at h; exact h
            have HQ2 : Hid (str ((a % b : Nat) : Int) = q2.data.toList) := HSG.out.2.1 HCASE.out
            go_wp2_with fail
            refine (rchecked_any (!q) _ (a / b) _ q1 0 HN5.out.1 ((FA.out.le (Nat.div_le_self _ _)).mono (by omega)) HQ1).mono ?_
            rintro e w6 ⟨rfl, hb6⟩
            have HB6 : Hid (Below w.heap.size w w6) := HB5.out.trans (hb6.mono HB5.out.size)
            have HN6 : Hid (DNum w6 (.slice ar 0 cr) (a % b)) := HN5.out.2.below (Nat.le_refl _) hb6
            clear hb6
            go_wp2_with fail
            refine (rtext_d q2 HN6.out ((FA.out.le (Nat.mod_le _ _)).mono (by omega)) HQ2).mono ?_
            rintro e w7 ⟨bb, rfl, hb7⟩
            go_wp2
            go_ret3
            exact ⟨rfl, HB6.out.trans (hb7.mono HB6.out.size)⟩
          · have hlp : 0 < lr := Nat.pos_of_ne_zero (fun e => hm (hl0.1 e))
            have HCASE : Hid (true = true ∧ a % b ≠ 0) := ⟨rfl, hm⟩
            clear hl0 hm
            have HQ1 : Hid (res (sv (!q) (a / b + 1)) = (q1.data.toList, 0)) := by have h := HSG.out.2.2.1 HCASE.out; rw [Bool.true_bne] at h; exact h
            have HQ2 : Hid (str ((b - a % b : Nat) : Int) = q2.data.toList) := HSG.out.2.2.2 HCASE.out
            have h1c : (w5.alloc (.cells #[.int .i64 1] 3)).cell? ⟨w5.heap.size, 0, none⟩ = some (.int .i64 1) := by rw [World.cell?_alloc_at _ _ _ _ rfl]; rfl
            have hbA : Below w5.heap.size w5 (w5.alloc (.cells #[.int .i64 1] 3)) := (Below.refl _ w5).alloc (Nat.le_refl _) _
            have H1 : Hid (DNum (w5.alloc (.cells #[.int .i64 1] 3)) (.slice (some ⟨w5.heap.size, 0, none⟩) 1 1) 1) := dnum_one (by simp) h1c
            have HNA : Hid (DNum (w5.alloc (.cells #[.int .i64 1] 3)) (.slice aq lq cq) (a / b) ∧ DNum (w5.alloc (.cells #[.int .i64 1] 3)) (.slice ar lr cr) (a % b) ∧ DNum (w5.alloc (.cells #[.int .i64 1] 3)) (.slice ay ly cy) b) := ⟨HN5.out.1.below (Nat.le_refl _) hbA, HN5.out.2.below (Nat.le_refl _) hbA, HM5.out.below (Nat.le_refl _) hbA⟩
            have HBA : Hid (Below w.heap.size w (w5.alloc (.cells #[.int .i64 1] 3))) := HB5.out.trans (hbA.mono HB5.out.size)
            clear h1c hbA
            go_wp2_with fail
            generalize w5.alloc (.cells #[.int .i64 1] 3) = w5a at H1 HNA HBA ⊢
            refine (rplus_any _ _ (a / b) 1 _ HNA.out.1 H1.out (((FA.out.le (Nat.div_le_self _ _)).add (DLim.iff.2 (Nat.one_lt_pow (by decide) (by decide)))).mono (by omega))).mono ?_
            rintro e w6 ⟨r6, rfl, hr6, _, hb6⟩
            obtain ⟨a6, l6, c6, rfl⟩ := hr6.shape
            have HN6 : Hid (DNum w6 (.slice a6 l6 c6) (a / b + 1) ∧ DNum w6 (.slice ar lr cr) (a % b) ∧ DNum w6 (.slice ay ly cy) b) := ⟨hr6, HNA.out.2.1.below (Nat.le_refl _) hb6, HNA.out.2.2.below (Nat.le_refl _) hb6⟩
            have HB6 : Hid (Below w.heap.size w w6) := HBA.out.trans (hb6.mono HBA.out.size)
            clear hr6 hb6
            go_wp2_with fail
            refine (rminus_any _ _ b (a % b) _ HN6.out.2.2 HN6.out.2.1 (FB.out.mono (by omega)) (Nat.le_of_lt (Nat.mod_lt _ HBP.out))).mono ?_
            rintro e w7 ⟨r7, rfl, hr7, _, hb7⟩
            obtain ⟨a7, l7, c7, rfl⟩ := hr7.shape
            have HN7 : Hid (DNum w7 (.slice a7 l7 c7) (b - a % b) ∧ DNum w7 (.slice a6 l6 c6) (a / b + 1)) := ⟨hr7, HN6.out.1.below (Nat.le_refl _) hb7⟩
            have HB7 : Hid (Below w.heap.size w w7) := HB6.out.trans (hb7.mono HB6.out.size)
            clear hr7 hb7
            go_wp2_with fail
            refine (rchecked_any (!q) _ (a / b + 1) _ q1 0 HN7.out.2 (((FA.out.le (Nat.div_le_self _ _)).add (DLim.iff.2 (Nat.one_lt_pow (by decide) (by decide)))).mono (by omega)) HQ1).mono ?_
            rintro e w8 ⟨rfl, hb8⟩
            have HB8 : Hid (Below w.heap.size w w8) := HB7.out.trans (hb8.mono HB7.out.size)
            have HN8 : Hid (DNum w8 (.slice a7 l7 c7) (b - a % b)) := HN7.out.1.below (Nat.le_refl _) hb8
            clear hb8
            go_wp2_with fail
            refine (rtext_d q2 HN8.out ((FB.out.le (Nat.sub_le _ _)).mono (by omega)) HQ2).mono ?_
            rintro e w9 ⟨bb, rfl, hb9⟩
            go_wp2
            go_ret3
            exact ⟨rfl, HB8.out.trans (hb9.mono HB8.out.size)⟩
    · have HT : Hid (valid t.data.toList = false) := by show _ = _; simpa using hvt
      have HS := Lib.hid hvs
      obtain ⟨rfl, rfl, rfl⟩ := div_empty (divS_no (by rw [HS.out, HT.out]; rfl)) hq.out
      clear hvs hvt hq
      go_enter Tryz.func68, Tryz.ntmps68
      go_wp2_with fail
      refine (rvalid_to true _ hs HS.out).mono ?_
      rintro e w1 ⟨rfl, rfl⟩
      go_wp2_with fail
      refine (rvalid_to false _ ht HT.out).mono ?_
      rintro e w2 ⟨rfl, rfl⟩
      go_wp2
      go_ret3
      exact ⟨rfl, Below.refl _ _⟩
  · have HS : Hid (valid s.data.toList = false) := by show _ = _; simpa using hvs
    obtain ⟨rfl, rfl, rfl⟩ := div_empty (divS_no (by rw [HS.out]; rfl)) hq.out
    clear hvs hq
    go_enter Tryz.func68, Tryz.ntmps68
    go_wp2_with fail
    refine (rvalid_to false _ hs HS.out).mono ?_
    rintro e w1 ⟨rfl, rfl⟩
    go_wp2
    go_ret3
    exact ⟨rfl, Below.refl _ _⟩

end Go.Proofs.Tryz
