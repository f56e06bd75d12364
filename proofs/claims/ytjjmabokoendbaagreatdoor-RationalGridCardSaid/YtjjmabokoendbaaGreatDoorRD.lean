/- The reference's FromInt, ToInt and Root: what they return. -/
import Derived.Test.YtjjmabokoendbaaGreatDoorRC
import Derived.Test.YtjjmabokoendbaaGreatDoorIZ
namespace Go.Proofs.Dt

/-- Between two rounds: k digits are out, M is left. -/
structure FInv (N k M : Nat) (zs : List Int) : Prop where
  len : zs.length = k
  dgs : Dgs 10 zs
  val : val 10 zs + 10 ^ k * (M : Int) = (N : Int)
  pos : k = 0 ∨ (10 : Int) ^ (k - 1) ≤ N

theorem FInv.start (N : Nat) : FInv N 0 N [] := ⟨rfl, Dgs.nil _, by rw [val_nil]; simp, .inl rfl⟩
theorem FInv.next {N k M : Nat} {zs : List Int} (h : FInv N k M zs) (hM : M ≠ 0) : FInv N (k + 1) (M / 10) (zs ++ [((M % 10 : Nat) : Int)]) := by
  refine ⟨by rw [List.length_append, h.len]; rfl, h.dgs.append (Dgs.one (by omega) (by omega)), ?_, .inr ?_⟩
  · rw [val_append, val_cons, val_nil, h.len, ← h.val, Int.pow_succ]
    have e : (M : Int) = ((M % 10 : Nat) : Int) + 10 * ((M / 10 : Nat) : Int) := by omega
    generalize ((M % 10 : Nat) : Int) = r at *
    generalize ((M / 10 : Nat) : Int) = q at *
    rw [e]
    generalize (10 : Int) ^ k = p
    grind
  · rw [Nat.add_sub_cancel, ← h.val]
    have hb := (val_bounds (by decide) h.dgs).1
    have hp : (0 : Int) < 10 ^ k := pow_pos (by decide) k
    have : (10 : Int) ^ k * 1 ≤ 10 ^ k * (M : Int) := Int.mul_le_mul_of_nonneg_left (by omega) (by omega)
    omega
theorem FInv.done {N k : Nat} {zs : List Int} (h : FInv N k 0 zs) : RepN 10 zs N := by
  have hv := h.val
  rw [show ((0 : Nat) : Int) = 0 from rfl, Int.mul_zero, Int.add_zero] at hv
  refine ⟨h.dgs, nrm_of_ge (by decide) h.dgs ?_, hv⟩
  rcases h.pos with e | e
  · exact .inl (List.eq_nil_of_length_eq_zero (by rw [h.len]; exact e))
  · exact .inr (by rw [h.len, hv]; exact e)
theorem FInv.short {N k M : Nat} {zs : List Int} (h : FInv N k M zs) (hN : N ≤ 9223372036854775808) : k ≤ 19 := by
  rcases h.pos with e | e
  · omega
  · rcases Nat.lt_or_ge 19 k with hk | hk
    · have h1 : (10 : Int) ^ 19 ≤ 10 ^ (k - 1) := pow_mono (by decide) (by omega)
      omega
    · exact hk

end Go.Proofs.Dt
namespace Go.Proofs.Tryz
open Go.RowKit Go.Shelf Go.Proofs.Dt

set_option maxHeartbeats 1000000 in
set_option maxRecDepth 100000 in
theorem rfrom_any (n : Int) (h0 : -9223372036854775808 ≤ n) (h1 : n ≤ 9223372036854775807) (w : World) : Calls Tryz.prog 29 #[.int .i64 n] w fun e w' => e = .returned (.string ⟨(str n).toArray⟩) ∧ Below w.heap.size w w' := by
  obtain ⟨x, hx⟩ : ∃ x : ByteArray, x = ⟨(str n).toArray⟩ := ⟨_, rfl⟩
  have HX : Hid (x = ⟨(str n).toArray⟩) := hx
  rw [← hx]
  clear hx
  obtain ⟨p, hp⟩ : ∃ p, decide (n < 0) = p := ⟨_, rfl⟩
  have HP : Hid (sv p n.natAbs = n) := by show _ = _; rw [← hp]; exact sv_num n
  obtain ⟨i0, hi, hz0, hz1, hz2⟩ := info_parts info3
  have HN : Hid (n.natAbs ≤ 9223372036854775808) := (by omega : n.natAbs ≤ 9223372036854775808)
  go_enter Tryz.func29, Tryz.ntmps29
  go_wp2_with fail
  go_loopw [3, 4] (fun o m wr => ∃ (mm : Int) (k : Nat) (zs : List Int), m = .int .i64 mm ∧ -9223372036854775808 ≤ mm ∧ mm ≤ 9223372036854775807 ∧ Hid (FInv n.natAbs k mm.natAbs zs ∧ wr.ownsRow w.heap.size 3 1 o zs.length (zs.map (Value.int .i64)) ∧ Below w.heap.size w wr)) (fun _ m _ => (intOf2 m).natAbs)
  case atStart => exact ⟨n, 0, [], rfl, h0, h1, FInv.start _, ⟨rfl, .inl ⟨rfl, rfl⟩⟩, Below.refl _ _⟩
  case round =>
    obtain ⟨m, k, zs, rfl, hm0, hm1, HR⟩ := hrel
    by_cases hz : m = 0
    · subst hz
      obtain ⟨ao, co, rfl⟩ := (ownsRow_ints HR.out.2.1).shape
      have HD : Hid (DNum wr (.slice ao zs.length co) n.natAbs) := ⟨zs, ownsRow_ints HR.out.2.1, HR.out.1.done⟩
      have HBr : Hid (Below w.heap.size w wr) := HR.out.2.2
      have HRT : Hid (∃ zs2, Ints wr (.slice ao zs.length co) zs2 ∧ zs2.length ≤ 1000 ∧ Dgs 10 zs2 ∧ (rtextS p zs2).1 = x.data.toList) := by
        have hs := HR.out.1.short HN.out
        have hlen := HR.out.1.len
        refine ⟨zs, ownsRow_ints HR.out.2.1, by omega, HR.out.1.dgs, ?_⟩
        rw [rtext_sv HR.out.1.done, HP.out, HX.out]
      clear HR
      go_wp2_with fail
      obtain ⟨zs2, ix, hl2, hd2, he2⟩ := HRT.out
      refine (rtext_any p _ ix hl2 hd2).mono ?_
      rw [he2]
      rintro e w2 ⟨rfl, hb2⟩
      go_wp2
      go_ret
      exact ⟨rfl, HBr.out.trans (hb2.mono HBr.out.size)⟩
    · have hmz : (m != 0) = true := bne_iff_ne.2 hz
      obtain ⟨r, hr⟩ : ∃ r, m.tmod 10 = r := ⟨_, rfl⟩
      obtain ⟨q, hq⟩ : ∃ q, m.tdiv 10 = q := ⟨_, rfl⟩
      have hra : r.natAbs = m.natAbs % 10 := by rw [← hr, Int.natAbs_tmod]; rfl
      have hqa : q.natAbs = m.natAbs / 10 := by rw [← hq, Int.natAbs_tdiv]; rfl
      have hq0 : -9223372036854775808 ≤ q := by omega
      have hq1 : q ≤ 9223372036854775807 := by omega
      have hr0 : -10 < r := by omega
      have hr1 : r < 10 := by omega
      have HI : Hid (FInv n.natAbs (k + 1) q.natAbs (zs ++ [((r.natAbs : Nat) : Int)])) := by
        have h := HR.out.1.next (by omega : m.natAbs ≠ 0)
        rw [← hra, ← hqa] at h
        exact h
      have HLT : Hid (q.natAbs < m.natAbs) := by show _ < _; rw [hqa]; omega
      have hsz2 := HR.out.2.2.size
      have HL : Hid (zs.length ≤ 19) := by show _ ≤ _; rw [HR.out.1.len]; exact HR.out.1.short HN.out
      clear hra hqa hz
      by_cases hrn : r < 0
      · have HE : Hid (((r.natAbs : Nat) : Int) = -r) := (by omega : ((r.natAbs : Nat) : Int) = -r)
        rw [HE.out] at HI
        go_wp2_with (at_builtin; go_must (refine wpList_append_own _ rfl _ _ 56 rfl w.heap.size 3 i0 (.int .i64 0) 1 8 Tryz.underlying56 hi hz0 hz1 hz2 rfl (by decide) _ _ _ rfl (HR.out.2.1.alloc _) ⟨wr.heap.size, 0, none⟩ 1 1 [.int .i64 (-r)] rfl rfl ?_ ?_ ?_ ?_ ?_ ?_); rotate_right; intro v2 w2 hown2 hgrow2 _)
        · have HS : Hid (FInv n.natAbs (k + 1) q.natAbs (zs ++ [-r]) ∧ w2.ownsRow w.heap.size 3 1 v2 (zs ++ [-r]).length ((zs ++ [-r]).map (Value.int .i64)) ∧ Below w.heap.size w w2) := by
            refine ⟨HI.out, ?_, (HR.out.2.2.alloc hsz2 _).grown hgrow2 (by first | (simp; done) | (simp; omega)) (fun j hj => (HR.out.2.1.lt j hj).1)⟩
            rw [List.length_append, List.map_append]; exact hown2
          go_roundw
          case rel => exact ⟨q, k + 1, _, rfl, hq0, hq1, HS⟩
          case measure => exact HLT.out
        all_goals (first | exact cell_one_new _ _ _ | (have := HL.out; omega) | (have := HL.out; unfold maxLen; omega) | (simp [Value.oneCell']; done) | (simp; omega))
      · have HE : Hid (((r.natAbs : Nat) : Int) = r) := (by omega : ((r.natAbs : Nat) : Int) = r)
        rw [HE.out] at HI
        go_wp2_with (at_builtin; go_must (refine wpList_append_own _ rfl _ _ 56 rfl w.heap.size 3 i0 (.int .i64 0) 1 8 Tryz.underlying56 hi hz0 hz1 hz2 rfl (by decide) _ _ _ rfl (HR.out.2.1.alloc _) ⟨wr.heap.size, 0, none⟩ 1 1 [.int .i64 (r)] rfl rfl ?_ ?_ ?_ ?_ ?_ ?_); rotate_right; intro v2 w2 hown2 hgrow2 _)
        · have HS : Hid (FInv n.natAbs (k + 1) q.natAbs (zs ++ [r]) ∧ w2.ownsRow w.heap.size 3 1 v2 (zs ++ [r]).length ((zs ++ [r]).map (Value.int .i64)) ∧ Below w.heap.size w w2) := by
            refine ⟨HI.out, ?_, (HR.out.2.2.alloc hsz2 _).grown hgrow2 (by first | (simp; done) | (simp; omega)) (fun j hj => (HR.out.2.1.lt j hj).1)⟩
            rw [List.length_append, List.map_append]; exact hown2
          go_roundw
          case rel => exact ⟨q, k + 1, _, rfl, hq0, hq1, HS⟩
          case measure => exact HLT.out
        all_goals (first | exact cell_one_new _ _ _ | (have := HL.out; omega) | (have := HL.out; unfold maxLen; omega) | (simp [Value.oneCell']; done) | (simp; omega))

end Go.Proofs.Tryz

namespace Go.Proofs.Dt

theorem dval_take_le (T : List UInt8) (j : Nat) : dval (T.take j) ≤ dval T := by
  have h := dval_append (T.take j) (T.drop j)
  rw [List.take_append_drop] at h
  rw [h]
  have : dval (T.take j) * 1 ≤ dval (T.take j) * 10 ^ (T.drop j).length := Nat.mul_le_mul_left _ (Nat.pow_pos (by decide))
  omega
theorem dval_take_next {T : List UInt8} {j d : Nat} {c : UInt8} (h : T[j]? = some c) (hc : c.toNat = 48 + d) : dval (T.take (j + 1)) = 10 * dval (T.take j) + d := by
  obtain ⟨h1, h2⟩ := List.getElem?_eq_some_iff.1 h
  rw [List.take_succ_eq_append_getElem h1, h2, dval_snoc, hc]; omega
theorem take_tail {T : List UInt8} {c : UInt8} {j : Nat} (h : T[j]? = some c) (hj : 1 ≤ j) : (T.take (j + 1)).tail = T.tail.take j ∧ (T.take j).tail = T.tail.take (j - 1) ∧ T.tail[j - 1]? = some c := by
  cases T with
  | nil => simp at h
  | cons a r =>
    obtain ⟨i, rfl⟩ : ∃ i, j = i + 1 := ⟨j - 1, by omega⟩
    refine ⟨rfl, rfl, ?_⟩
    simpa using h
theorem toIntS_bad {s : List UInt8} (h : valid s = false) : toIntS s = (0, 30) := by unfold toIntS; rw [h]; rfl
theorem toIntS_low {s : List UInt8} (h : num s < -9223372036854775808) : toIntS s = (0, 30) := by
  unfold toIntS; rw [decide_eq_false (show ¬ -9223372036854775808 ≤ num s by omega), Bool.and_false]; rfl
theorem toIntS_high {s : List UInt8} (h : 9223372036854775807 < num s) : toIntS s = (0, 30) := by
  unfold toIntS; rw [decide_eq_false (show ¬ num s ≤ 9223372036854775807 by omega), Bool.and_false]; rfl
theorem toIntS_in {s : List UInt8} (hv : valid s = true) (h0 : -9223372036854775808 ≤ num s) (h1 : num s ≤ 9223372036854775807) : toIntS s = (num s, 0) := by
  unfold toIntS; rw [hv, decide_eq_true h0, decide_eq_true h1]; rfl
def minL : List UInt8 := [45, 57, 50, 50, 51, 51, 55, 50, 48, 51, 54, 56, 53, 52, 55, 55, 53, 56, 48, 56]
def maxL : List UInt8 := [57, 50, 50, 51, 51, 55, 50, 48, 51, 54, 56, 53, 52, 55, 55, 53, 56, 48, 55]
theorem min_valid : valid minL = true := by decide
theorem max_valid : valid maxL = true := by decide
theorem min_num : num minL = -9223372036854775808 := by decide
theorem max_num : num maxL = 9223372036854775807 := by decide

end Go.Proofs.Dt
namespace Go.Proofs.Tryz
open Go.RowKit Go.Shelf Go.Proofs.Dt

set_option maxHeartbeats 1000000 in
set_option maxRecDepth 100000 in
theorem rtoInt_any (s : ByteArray) (hs : s.size ≤ 1000) (w : World) (k c : Int) (hq : Hid (toIntS s.data.toList = (k, c))) :
    Calls Tryz.prog 45 #[.string s] w fun e w' => e = .returned (.tuple #[.int .i64 k, .int .i64 c]) ∧ Below w.heap.size w w' := by
  by_cases hvs : valid s.data.toList = true
  · have HS := Lib.hid hvs
    have hc1 := (cmpS_yes hvs min_valid).trans (by rw [min_num])
    have hc2 := (cmpS_yes hvs max_valid).trans (by rw [max_num])
    by_cases hlo : num s.data.toList < -9223372036854775808
    · obtain ⟨rfl, rfl⟩ : k = 0 ∧ c = 30 := by have h := hq.out; rw [toIntS_low hlo] at h; exact ⟨(Prod.mk.inj h).1.symm, (Prod.mk.inj h).2.symm⟩
      have HC1 : Hid (cmpS s.data.toList (⟨#[45, 57, 50, 50, 51, 51, 55, 50, 48, 51, 54, 56, 53, 52, 55, 55, 53, 56, 48, 56]⟩ : ByteArray).data.toList = -1) := by show _ = _; exact hc1.trans (by unfold sgn; rw [if_pos (by omega)])
      clear hq hvs hc1 hc2 hlo
      go_enter Tryz.func45, Tryz.ntmps45
      go_wp2_with fail
      refine (rvalid_to true _ hs HS.out).mono ?_
      rintro e w1 ⟨rfl, rfl⟩
      go_wp2_with fail
      refine (rcompare_any s _ hs (by decide) _ (-1) HC1).mono ?_
      rintro e w2 ⟨rfl, hb2⟩
      go_wp2
      go_ret2
      exact ⟨rfl, hb2⟩
    · obtain ⟨x1, hx1⟩ : ∃ x, x = sgn (num s.data.toList - -9223372036854775808) := ⟨_, rfl⟩
      have hx10 : ¬ x1 < 0 := by rw [hx1]; unfold sgn; rw [if_neg (by omega)]; split <;> decide
      have HC1 : Hid (cmpS s.data.toList (⟨#[45, 57, 50, 50, 51, 51, 55, 50, 48, 51, 54, 56, 53, 52, 55, 55, 53, 56, 48, 56]⟩ : ByteArray).data.toList = x1) := by show _ = _; rw [hx1]; exact hc1
      by_cases hhi : 9223372036854775807 < num s.data.toList
      · obtain ⟨rfl, rfl⟩ : k = 0 ∧ c = 30 := by have h := hq.out; rw [toIntS_high hhi] at h; exact ⟨(Prod.mk.inj h).1.symm, (Prod.mk.inj h).2.symm⟩
        have HC2 : Hid (cmpS s.data.toList (⟨#[57, 50, 50, 51, 51, 55, 50, 48, 51, 54, 56, 53, 52, 55, 55, 53, 56, 48, 55]⟩ : ByteArray).data.toList = 1) := by show _ = _; exact hc2.trans (by unfold sgn; rw [if_neg (by omega), if_pos (by omega)])
        clear hq hvs hc1 hc2 hlo hhi hx1
        go_enter Tryz.func45, Tryz.ntmps45
        go_wp2_with fail
        refine (rvalid_to true _ hs HS.out).mono ?_
        rintro e w1 ⟨rfl, rfl⟩
        go_wp2_with fail
        refine (rcompare_any s _ hs (by decide) _ x1 HC1).mono ?_
        rintro e w2 ⟨rfl, hb2⟩
        have HB2 := Lib.hid hb2
        clear hb2
        go_wp2_with fail
        refine (rcompare_any s _ hs (by decide) _ 1 HC2).mono ?_
        rintro e w3 ⟨rfl, hb3⟩
        go_wp2
        go_ret2
        exact ⟨rfl, HB2.out.trans (hb3.mono HB2.out.size)⟩
      · obtain ⟨rfl, rfl⟩ : k = num s.data.toList ∧ c = 0 := by have h := hq.out; rw [toIntS_in hvs (by omega) (by omega)] at h; exact ⟨(Prod.mk.inj h).1.symm, (Prod.mk.inj h).2.symm⟩
        obtain ⟨x2, hx2⟩ : ∃ x, x = sgn (num s.data.toList - 9223372036854775807) := ⟨_, rfl⟩
        have hx20 : ¬ 0 < x2 := by
          rw [hx2]; unfold sgn
          split
          · decide
          · rw [if_neg (by omega)]; decide
        have HC2 : Hid (cmpS s.data.toList (⟨#[57, 50, 50, 51, 51, 55, 50, 48, 51, 54, 56, 53, 52, 55, 55, 53, 56, 48, 55]⟩ : ByteArray).data.toList = x2) := by show _ = _; rw [hx2]; exact hc2
        obtain ⟨p1, p2, p3, p4⟩ := valid_parts hvs
        have hsz : 0 < s.size := by
          rcases Nat.eq_zero_or_pos s.size with e | e
          · exact absurd (show body s.data.toList = [] by rw [body_pos (.inl e)]; exact List.eq_nil_of_length_eq_zero (by rw [bytes_len]; exact e)) p1
          · exact e
        have hab := num_abs s.data.toList
        have hsg := num_sign hvs
        have HLO := Lib.hid hlo
        have HHI := Lib.hid hhi
        have HD := Lib.hid p3
        clear hq hc1 hc2 hlo hhi hx1 hx2 p1 p2 p3 p4
        by_cases hneg : (s[0].toNat : Int) = 45
        · have hb := body_neg hsz hneg
          have hnn : num s.data.toList < 0 := hsg.2 (by rw [head_is s hsz]; congr 1; apply UInt8.toNat_inj.1; show _ = 45; omega)
          have HV : Hid (num s.data.toList = -(dval s.data.toList.tail : Int)) := by
            show _ = _
            rw [hb] at hab; omega
          rw [hb] at HD
          have HB45 : Hid (∀ f d, 1 ≤ f → f < s.size → s[f]!.toNat = 48 + d → 10 * (dval (s.data.toList.take f).tail : Int) + d ≤ 9223372036854775808 ∧ dval (s.data.toList.take (f + 1)).tail = 10 * dval (s.data.toList.take f).tail + d ∧ d ≤ 9) := by
            intro f d hf1 hf hd
            have h1 := HLO.out
            have h2 := HV.out
            have h4 := bytes_at s f hf
            have h7 : s[f]! = s[f] := getElem!_pos s f hf
            rw [h7] at hd
            obtain ⟨e1, e2, e3⟩ := take_tail h4 hf1
            have h3 := dval_take_le s.data.toList.tail f
            have h6 := dval_take_next e3 hd
            rw [show f - 1 + 1 = f by omega] at h6
            have h5 := List.all_eq_true.1 HD.out _ (List.mem_of_getElem? e3)
            rw [isDig_iff] at h5
            rw [e1, e2]
            exact ⟨by omega, h6, by omega⟩
          have HDG : Hid (∀ f, 1 ≤ f → (h : f < s.size) → ∃ d : Nat, s[f].toNat = 48 + d) := by
            intro f hf1 hf
            obtain ⟨_, _, e3⟩ := take_tail (bytes_at s f hf) hf1
            have h5 := List.all_eq_true.1 HD.out _ (List.mem_of_getElem? e3)
            rw [isDig_iff] at h5
            exact ⟨s[f].toNat - 48, by omega⟩
          clear hb hnn hab hsg
          go_enter Tryz.func45, Tryz.ntmps45
          go_wp2_with fail
          refine (rvalid_to true _ hs HS.out).mono ?_
          rintro e w1 ⟨rfl, rfl⟩
          go_wp2_with fail
          refine (rcompare_any s _ hs (by decide) _ x1 HC1).mono ?_
          rintro e w2 ⟨rfl, hb2⟩
          have HB2 := Lib.hid hb2
          clear hb2
          go_wp2_with fail
          refine (rcompare_any s _ hs (by decide) _ x2 HC2).mono ?_
          rintro e w3 ⟨rfl, hb3⟩
          have HB3 : Hid (Below w.heap.size w w3) := HB2.out.trans (hb3.mono HB2.out.size)
          clear hb3
          go_wp2_with fail
          go_loopw [4, 5] (fun n i wr => ∃ (f v : Nat), n = .int .i64 (-(v : Int)) ∧ i = .int .i64 (f : Int) ∧ f ≤ s.size ∧ Hid (v = dval (s.data.toList.take f).tail ∧ Below w.heap.size w wr)) (fun _ i _ => s.size - (intOf2 i).toNat)
          case atStart => exact ⟨0, 0, by simp, rfl, by omega, by rfl, HB3.out⟩
          case round =>
            clear HB3
            obtain ⟨f, v, rfl, rfl, hf, HR⟩ := hrel
            by_cases hlt : f < s.size
            · by_cases hf0 : f = 0
              · subst hf0
                have HR2 : Hid (v = dval (s.data.toList.take (0 + 1)).tail ∧ Below w.heap.size w wr) := by
                  refine ⟨?_, HR.out.2⟩
                  rw [HR.out.1]
                  cases s.data.toList <;> rfl
                clear HR
                go_wp2
                go_roundw
                case rel => exact ⟨0 + 1, v, rfl, by go_num, by omega, HR2⟩
                case measure => simp [intOf2]; omega
              · obtain ⟨d, hd⟩ := HDG.out f (by omega) hlt
                obtain ⟨b1, b2, hd9⟩ := HB45.out f d (by omega) hlt (by rw [getElem!_pos s f hlt]; exact hd)
                have HR2 : Hid (10 * v + d = dval (s.data.toList.take (f + 1)).tail ∧ Below w.heap.size w wr) := ⟨by rw [b2, HR.out.1], HR.out.2⟩
                have h10 : 10 * (v : Int) + (d : Int) ≤ 9223372036854775808 := by rw [HR.out.1]; exact b1
                have hcc : (48 : Int) + (d : Int) - 48 = (d : Int) := by omega
                have hcn : ((48 : Int) + (d : Int) == 45) = false := by simp; omega
                clear b1 b2 HR hf0
                go_wp2
                go_roundw
                case rel => exact ⟨f + 1, 10 * v + d, by first | (congr 1; done) | (congr 1; omega), by go_num, by omega, HR2⟩
                case measure => simp [intOf2]; omega
            · obtain rfl : f = s.size := by omega
              have HE : Hid (num s.data.toList = -(v : Int)) := by
                show _ = _
                rw [HV.out, HR.out.1, List.take_of_length_le (by rw [bytes_len]; exact Nat.le_refl _)]
              have HBr := Lib.hid HR.out.2
              clear HR
              go_wp2
              go_ret2
              exact ⟨by rw [HE.out]; rfl, HBr.out⟩
        · have hb := body_pos (s := s) (.inr ⟨hsz, hneg⟩)
          have hnn : 0 ≤ num s.data.toList := by
            rcases Int.lt_or_le (num s.data.toList) 0 with h | h
            · have h1 := hsg.1 h
              rw [head_is s hsz] at h1
              exact absurd (by rw [Option.some.inj h1]; rfl) hneg
            · exact h
          have HV : Hid (num s.data.toList = (dval s.data.toList : Int)) := by
            show _ = _
            rw [hb] at hab; omega
          rw [hb] at HD
          have HB45 : Hid (∀ f, f < s.size → 10 * (dval (s.data.toList.take f) : Int) ≤ 9223372036854775807 ∧ (dval (s.data.toList.take (f + 1)) : Int) ≤ 9223372036854775807) := by
            intro f hf
            have h1 := HHI.out
            have h2 := HV.out
            have h3 := dval_take_le s.data.toList (f + 1)
            have h4 := bytes_at s f hf
            have h5 := List.all_eq_true.1 HD.out _ (List.mem_of_getElem? h4)
            rw [isDig_iff] at h5
            have h6 := dval_take_next h4 (d := s[f].toNat - 48) (by omega)
            exact ⟨by omega, by omega⟩
          have hng : ((s[0].toNat : Int) == 45) = false := by simpa using hneg
          clear hb hnn hab hsg
          go_enter Tryz.func45, Tryz.ntmps45
          go_wp2_with fail
          refine (rvalid_to true _ hs HS.out).mono ?_
          rintro e w1 ⟨rfl, rfl⟩
          go_wp2_with fail
          refine (rcompare_any s _ hs (by decide) _ x1 HC1).mono ?_
          rintro e w2 ⟨rfl, hb2⟩
          have HB2 := Lib.hid hb2
          clear hb2
          go_wp2_with fail
          refine (rcompare_any s _ hs (by decide) _ x2 HC2).mono ?_
          rintro e w3 ⟨rfl, hb3⟩
          have HB3 : Hid (Below w.heap.size w w3) := HB2.out.trans (hb3.mono HB2.out.size)
          clear hb3
          go_wp2_with fail
          go_loopw [4, 5] (fun n i wr => ∃ (f v : Nat), n = .int .i64 (v : Int) ∧ i = .int .i64 (f : Int) ∧ f ≤ s.size ∧ Hid (v = dval (s.data.toList.take f) ∧ Below w.heap.size w wr)) (fun _ i _ => s.size - (intOf2 i).toNat)
          case atStart => exact ⟨0, 0, rfl, rfl, by omega, by rfl, HB3.out⟩
          case round =>
            clear HB3
            obtain ⟨f, v, rfl, rfl, hf, HR⟩ := hrel
            by_cases hlt : f < s.size
            · have hb := bytes_at s f hlt
              obtain ⟨d, hd⟩ : ∃ d : Nat, s[f].toNat = 48 + d := ⟨s[f].toNat - 48, by
                have := List.all_eq_true.1 HD.out _ (List.mem_of_getElem? hb)
                rw [isDig_iff] at this; omega⟩
              have hd9 : d ≤ 9 := by
                have := List.all_eq_true.1 HD.out _ (List.mem_of_getElem? hb)
                rw [isDig_iff] at this; omega
              have hbd := HB45.out f hlt
              have hnx := dval_take_next hb hd
              have HR2 : Hid (10 * v + d = dval (s.data.toList.take (f + 1)) ∧ Below w.heap.size w wr) := ⟨by rw [hnx, HR.out.1], HR.out.2⟩
              have h10 : 10 * (v : Int) ≤ 9223372036854775807 := by rw [HR.out.1]; exact hbd.1
              have h10d : 10 * (v : Int) + (d : Int) ≤ 9223372036854775807 := by have h1 := hbd.2; rw [← HR2.out.1] at h1; omega
              have hcc : (48 : Int) + (d : Int) - 48 = (d : Int) := by omega
              have hcn : ((48 : Int) + (d : Int) == 45) = false := by simp; omega
              clear hb hbd hnx HR
              go_wp2
              go_roundw
              case rel => exact ⟨f + 1, 10 * v + d, by first | (congr 1; done) | (congr 1; omega), by go_num, by omega, HR2⟩
              case measure => simp [intOf2]; omega
            · obtain rfl : f = s.size := by omega
              have HE : Hid (num s.data.toList = (v : Int)) := by
                show _ = _
                rw [HV.out, HR.out.1, List.take_of_length_le (by rw [bytes_len]; exact Nat.le_refl _)]
              have HBr := Lib.hid HR.out.2
              clear HR
              go_wp2
              go_ret2
              exact ⟨by rw [HE.out]; rfl, HBr.out⟩
  · have HS : Hid (valid s.data.toList = false) := by show _ = _; simpa using hvs
    obtain ⟨rfl, rfl⟩ : k = 0 ∧ c = 30 := by have h := hq.out; rw [toIntS_bad HS.out] at h; exact ⟨(Prod.mk.inj h).1.symm, (Prod.mk.inj h).2.symm⟩
    clear hvs hq
    go_enter Tryz.func45, Tryz.ntmps45
    go_wp2_with fail
    refine (rvalid_to false _ hs HS.out).mono ?_
    rintro e w1 ⟨rfl, rfl⟩
    go_wp2
    go_ret2
    exact ⟨rfl, Below.refl _ _⟩

end Go.Proofs.Tryz
