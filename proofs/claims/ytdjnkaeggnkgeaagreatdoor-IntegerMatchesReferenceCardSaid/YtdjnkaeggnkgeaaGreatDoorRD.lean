/- The reference's FromInt, ToInt and Root: what they return. -/
import Derived.Test.YtdjnkaeggnkgeaaGreatDoorRC
import Derived.Test.YtdjnkaeggnkgeaaGreatDoorZed2
namespace Go.Proofs.Dt

/-- Between two rounds: k digits are out, M is left. -/
structure FInv (N k M : Nat) (zs : List Int) : Prop where
  len : zs.length = k
  dgs : Dgs 10 zs
  val : val 10 zs + 10 ^ k * (M : Int) = (N : Int)
  pos : k = 0 ∨ (10 : Int) ^ (k - 1) ≤ N

theorem FInv.start (N : Nat) : FInv N 0 N [] := ⟨rfl, Dgs.nil _, by rw [val_nil]; simp, .inl rfl⟩
theorem FInv.next {N k M : Nat} {zs : List Int} (h : FInv N k M zs) (hM : M ≠ 0) : FInv N (k + 1) (M / 10) (zs ++ [((M % 10 : Nat) : Int)]) := by
  refine ⟨by rw [List.length_append, h.len]; rfl, h.dgs.append (Dgs.one (by omega) (by omega)), ?_, .inr ?_⟩
  · rw [val_append, val_cons, val_nil, h.len, ← h.val, Int.pow_succ]
    have e : (M : Int) = ((M % 10 : Nat) : Int) + 10 * ((M / 10 : Nat) : Int) := by omega
    generalize ((M % 10 : Nat) : Int) = r at *
    generalize ((M / 10 : Nat) : Int) = q at *
    rw [e]
    generalize (10 : Int) ^ k = p
    grind
  · rw [Nat.add_sub_cancel, ← h.val]
    have hb := (val_bounds (by decide) h.dgs).1
    have hp : (0 : Int) < 10 ^ k := pow_pos (by decide) k
    have : (10 : Int) ^ k * 1 ≤ 10 ^ k * (M : Int) := Int.mul_le_mul_of_nonneg_left (by omega) (by omega)
    omega
theorem FInv.done {N k : Nat} {zs : List Int} (h : FInv N k 0 zs) : RepN 10 zs N := by
  have hv := h.val
  rw [show ((0 : Nat) : Int) = 0 from rfl, Int.mul_zero, Int.add_zero] at hv
  refine ⟨h.dgs, nrm_of_ge (by decide) h.dgs ?_, hv⟩
  rcases h.pos with e | e
  · exact .inl (List.eq_nil_of_length_eq_zero (by rw [h.len]; exact e))
  · exact .inr (by rw [h.len, hv]; exact e)
theorem FInv.short {N k M : Nat} {zs : List Int} (h : FInv N k M zs) (hN : N ≤ 9223372036854775808) : k ≤ 19 := by
  rcases h.pos with e | e
  · omega
  · rcases Nat.lt_or_ge 19 k with hk | hk
    · have h1 : (10 : Int) ^ 19 ≤ 10 ^ (k - 1) := pow_mono (by decide) (by omega)
      omega
    · exact hk

end Go.Proofs.Dt
namespace Go.Proofs.Tryz
open Go.RowKit Go.Shelf Go.Proofs.Dt

set_option maxHeartbeats 1000000 in
set_option maxRecDepth 100000 in
theorem rfrom_any (n : Int) (h0 : -9223372036854775808 ≤ n) (h1 : n ≤ 9223372036854775807) (w : World) : Calls Tryz.prog 24 #[.int .i64 n] w fun e w' => e = .returned (.string ⟨(str n).toArray⟩) ∧ Below w.heap.size w w' := by
  obtain ⟨x, hx⟩ : ∃ x : ByteArray, x = ⟨(str n).toArray⟩ := ⟨_, rfl⟩
  have HX : Hid (x = ⟨(str n).toArray⟩) := hx
  rw [← hx]
  clear hx
  obtain ⟨p, hp⟩ : ∃ p, decide (n < 0) = p := ⟨_, rfl⟩
  have HP : Hid (sv p n.natAbs = n) := by show _ = _; rw [← hp]; exact sv_num n
  obtain ⟨i0, hi, hz0, hz1, hz2⟩ := info_parts info3
  have HN : Hid (n.natAbs ≤ 9223372036854775808) := (by omega : n.natAbs ≤ 9223372036854775808)
  go_enter Tryz.func24, Tryz.ntmps24
  go_wp2_with fail
  go_loopw [3, 4] (fun o m wr => ∃ (mm : Int) (k : Nat) (zs : List Int), m = .int .i64 mm ∧ -9223372036854775808 ≤ mm ∧ mm ≤ 9223372036854775807 ∧ Hid (FInv n.natAbs k mm.natAbs zs ∧ wr.ownsRow w.heap.size 3 1 o zs.length (zs.map (Value.int .i64)) ∧ Below w.heap.size w wr)) (fun _ m _ => (intOf2 m).natAbs)
  case atStart => exact ⟨n, 0, [], rfl, h0, h1, FInv.start _, ⟨rfl, .inl ⟨rfl, rfl⟩⟩, Below.refl _ _⟩
  case round =>
    obtain ⟨m, k, zs, rfl, hm0, hm1, HR⟩ := hrel
    by_cases hz : m = 0
    · subst hz
      obtain ⟨ao, co, rfl⟩ := (ownsRow_ints HR.out.2.1).shape
      have HD : Hid (DNum wr (.slice ao zs.length co) n.natAbs) := ⟨zs, ownsRow_ints HR.out.2.1, HR.out.1.done⟩
      have HBr : Hid (Below w.heap.size w wr) := HR.out.2.2
      have HRT : Hid (∃ zs2, Ints wr (.slice ao zs.length co) zs2 ∧ zs2.length ≤ 1000 ∧ Dgs 10 zs2 ∧ (rtextS p zs2).1 = x.data.toList) := by
        have hs := HR.out.1.short HN.out
        have hlen := HR.out.1.len
        refine ⟨zs, ownsRow_ints HR.out.2.1, by omega, HR.out.1.dgs, ?_⟩
        rw [rtext_sv HR.out.1.done, HP.out, HX.out]
      clear HR
      go_wp2_with fail
      obtain ⟨zs2, ix, hl2, hd2, he2⟩ := HRT.out
      refine (rtext_any p _ ix hl2 hd2).mono ?_
      rw [he2]
      rintro e w2 ⟨rfl, hb2⟩
      go_wp2
      go_ret
      exact ⟨rfl, HBr.out.trans (hb2.mono HBr.out.size)⟩
    · have hmz : (m != 0) = true := bne_iff_ne.2 hz
      obtain ⟨r, hr⟩ : ∃ r, m.tmod 10 = r := ⟨_, rfl⟩
      obtain ⟨q, hq⟩ : ∃ q, m.tdiv 10 = q := ⟨_, rfl⟩
      have hra : r.natAbs = m.natAbs % 10 := by rw [← hr, Int.natAbs_tmod]; rfl
      have hqa : q.natAbs = m.natAbs / 10 := by rw [← hq, Int.natAbs_tdiv]; rfl
      have hq0 : -9223372036854775808 ≤ q := by omega
      have hq1 : q ≤ 9223372036854775807 := by omega
      have hr0 : -10 < r := by omega
      have hr1 : r < 10 := by omega
      have HI : Hid (FInv n.natAbs (k + 1) q.natAbs (zs ++ [((r.natAbs : Nat) : Int)])) := by
        have h := HR.out.1.next (by omega : m.natAbs ≠ 0)
        rw [← hra, ← hqa] at h
        exact h
      have HLT : Hid (q.natAbs < m.natAbs) := by show _ < _; rw [hqa]; omega
      have hsz2 := HR.out.2.2.size
      have HL : Hid (zs.length ≤ 19) := by show _ ≤ _; rw [HR.out.1.len]; exact HR.out.1.short HN.out
      clear hra hqa hz
      by_cases hrn : r < 0
      · have HE : Hid (((r.natAbs : Nat) : Int) = -r) := (by omega : ((r.natAbs : Nat) : Int) = -r)
        rw [HE.out] at HI
        go_wp2_with (at_builtin; go_must (refine wpList_append_own _ rfl _ _ 44 rfl w.heap.size 3 i0 (.int .i64 0) 1 8 Tryz.underlying44 hi hz0 hz1 hz2 rfl (by decide) _ _ _ rfl (HR.out.2.1.alloc _) ⟨wr.heap.size, 0, none⟩ 1 1 [.int .i64 (-r)] rfl rfl ?_ ?_ ?_ ?_ ?_ ?_); rotate_right; intro v2 w2 hown2 hgrow2 _)
        · have HS : Hid (FInv n.natAbs (k + 1) q.natAbs (zs ++ [-r]) ∧ w2.ownsRow w.heap.size 3 1 v2 (zs ++ [-r]).length ((zs ++ [-r]).map (Value.int .i64)) ∧ Below w.heap.size w w2) := by
            refine ⟨HI.out, ?_, (HR.out.2.2.alloc hsz2 _).grown hgrow2 (by first | (simp; done) | (simp; omega)) (fun j hj => (HR.out.2.1.lt j hj).1)⟩
            rw [List.length_append, List.map_append]; exact hown2
          go_roundw
          case rel => exact ⟨q, k + 1, _, rfl, hq0, hq1, HS⟩
          case measure => exact HLT.out
        all_goals (first | exact cell_one_new _ _ _ | (have := HL.out; omega) | (have := HL.out; unfold maxLen; omega) | (simp [Value.oneCell']; done) | (simp; omega))
      · have HE : Hid (((r.natAbs : Nat) : Int) = r) := (by omega : ((r.natAbs : Nat) : Int) = r)
        rw [HE.out] at HI
        go_wp2_with (at_builtin; go_must (refine wpList_append_own _ rfl _ _ 44 rfl w.heap.size 3 i0 (.int .i64 0) 1 8 Tryz.underlying44 hi hz0 hz1 hz2 rfl (by decide) _ _ _ rfl (HR.out.2.1.alloc _) ⟨wr.heap.size, 0, none⟩ 1 1 [.int .i64 (r)] rfl rfl ?_ ?_ ?_ ?_ ?_ ?_); rotate_right; intro v2 w2 hown2 hgrow2 _)
        · have HS : Hid (FInv n.natAbs (k + 1) q.natAbs (zs ++ [r]) ∧ w2.ownsRow w.heap.size 3 1 v2 (zs ++ [r]).length ((zs ++ [r]).map (Value.int .i64)) ∧ Below w.heap.size w w2) := by
            refine ⟨HI.out, ?_, (HR.out.2.2.alloc hsz2 _).grown hgrow2 (by first | (simp; done) | (simp; omega)) (fun j hj => (HR.out.2.1.lt j hj).1)⟩
            rw [List.length_append, List.map_append]; exact hown2
          go_roundw
          case rel => exact ⟨q, k + 1, _, rfl, hq0, hq1, HS⟩
          case measure => exact HLT.out
        all_goals (first | exact cell_one_new _ _ _ | (have := HL.out; omega) | (have := HL.out; unfold maxLen; omega) | (simp [Value.oneCell']; done) | (simp; omega))

end Go.Proofs.Tryz

namespace Go.Proofs.Dt

theorem dval_take_le (T : List UInt8) (j : Nat) : dval (T.take j) ≤ dval T := by
  have h := dval_append (T.take j) (T.drop j)
  rw [List.take_append_drop] at h
  rw [h]
  have : dval (T.take j) * 1 ≤ dval (T.take j) * 10 ^ (T.drop j).length := Nat.mul_le_mul_left _ (Nat.pow_pos (by decide))
  omega
theorem dval_take_next {T : List UInt8} {j d : Nat} {c : UInt8} (h : T[j]? = some c) (hc : c.toNat = 48 + d) : dval (T.take (j + 1)) = 10 * dval (T.take j) + d := by
  obtain ⟨h1, h2⟩ := List.getElem?_eq_some_iff.1 h
  rw [List.take_succ_eq_append_getElem h1, h2, dval_snoc, hc]; omega
theorem take_tail {T : List UInt8} {c : UInt8} {j : Nat} (h : T[j]? = some c) (hj : 1 ≤ j) : (T.take (j + 1)).tail = T.tail.take j ∧ (T.take j).tail = T.tail.take (j - 1) ∧ T.tail[j - 1]? = some c := by
  cases T with
  | nil => simp at h
  | cons a r =>
    obtain ⟨i, rfl⟩ : ∃ i, j = i + 1 := ⟨j - 1, by omega⟩
    refine ⟨rfl, rfl, ?_⟩
    simpa using h
theorem toIntS_bad {s : List UInt8} (h : valid s = false) : toIntS s = (0, 30) := by unfold toIntS; rw [h]; rfl
theorem toIntS_low {s : List UInt8} (h : num s < -9223372036854775808) : toIntS s = (0, 30) := by
  unfold toIntS; rw [decide_eq_false (show ¬ -9223372036854775808 ≤ num s by omega), Bool.and_false]; rfl
theorem toIntS_high {s : List UInt8} (h : 9223372036854775807 < num s) : toIntS s = (0, 30) := by
  unfold toIntS; rw [decide_eq_false (show ¬ num s ≤ 9223372036854775807 by omega), Bool.and_false]; rfl
theorem toIntS_in {s : List UInt8} (hv : valid s = true) (h0 : -9223372036854775808 ≤ num s) (h1 : num s ≤ 9223372036854775807) : toIntS s = (num s, 0) := by
  unfold toIntS; rw [hv, decide_eq_true h0, decide_eq_true h1]; rfl
def minL : List UInt8 := [45, 57, 50, 50, 51, 51, 55, 50, 48, 51, 54, 56, 53, 52, 55, 55, 53, 56, 48, 56]
def maxL : List UInt8 := [57, 50, 50, 51, 51, 55, 50, 48, 51, 54, 56, 53, 52, 55, 55, 53, 56, 48, 55]
theorem min_valid : valid minL = true := by decide
theorem max_valid : valid maxL = true := by decide
theorem min_num : num minL = -9223372036854775808 := by decide
theorem max_num : num maxL = 9223372036854775807 := by decide

end Go.Proofs.Dt
namespace Go.Proofs.Tryz
open Go.RowKit Go.Shelf Go.Proofs.Dt

set_option maxHeartbeats 1000000 in
set_option maxRecDepth 100000 in
theorem rtoInt_any (s : ByteArray) (hs : s.size ≤ 1000) (w : World) (k c : Int) (hq : Hid (toIntS s.data.toList = (k, c))) :
    Calls Tryz.prog 32 #[.string s] w fun e w' => e = .returned (.tuple #[.int .i64 k, .int .i64 c]) ∧ Below w.heap.size w w' := by
  by_cases hvs : valid s.data.toList = true
  · have HS := Lib.hid hvs
    have hc1 := (cmpS_yes hvs min_valid).trans (by rw [min_num])
    have hc2 := (cmpS_yes hvs max_valid).trans (by rw [max_num])
    by_cases hlo : num s.data.toList < -9223372036854775808
    · obtain ⟨rfl, rfl⟩ : k = 0 ∧ c = 30 := by have h := hq.out; rw [toIntS_low hlo] at h; exact ⟨(Prod.mk.inj h).1.symm, (Prod.mk.inj h).2.symm⟩
      have HC1 : Hid (cmpS s.data.toList (⟨#[45, 57, 50, 50, 51, 51, 55, 50, 48, 51, 54, 56, 53, 52, 55, 55, 53, 56, 48, 56]⟩ : ByteArray).data.toList = -1) := by show _ = _; exact hc1.trans (by unfold sgn; rw [if_pos (by omega)])
      clear hq hvs hc1 hc2 hlo
      go_enter Tryz.func32, Tryz.ntmps32
      go_wp2_with fail
      refine (rvalid_to true _ hs HS.out).mono ?_
      rintro e w1 ⟨rfl, rfl⟩
      go_wp2_with fail
      refine (rcompare_any s _ hs (by decide) _ (-1) HC1).mono ?_
      rintro e w2 ⟨rfl, hb2⟩
      go_wp2
      go_ret2
      exact ⟨rfl, hb2⟩
    · obtain ⟨x1, hx1⟩ : ∃ x, x = sgn (num s.data.toList - -9223372036854775808) := ⟨_, rfl⟩
      have hx10 : ¬ x1 < 0 := by rw [hx1]; unfold sgn; rw [if_neg (by omega)]; split <;> decide
      have HC1 : Hid (cmpS s.data.toList (⟨#[45, 57, 50, 50, 51, 51, 55, 50, 48, 51, 54, 56, 53, 52, 55, 55, 53, 56, 48, 56]⟩ : ByteArray).data.toList = x1) := by show _ = _; rw [hx1]; exact hc1
      by_cases hhi : 9223372036854775807 < num s.data.toList
      · obtain ⟨rfl, rfl⟩ : k = 0 ∧ c = 30 := by have h := hq.out; rw [toIntS_high hhi] at h; exact ⟨(Prod.mk.inj h).1.symm, (Prod.mk.inj h).2.symm⟩
        have HC2 : Hid (cmpS s.data.toList (⟨#[57, 50, 50, 51, 51, 55, 50, 48, 51, 54, 56, 53, 52, 55, 55, 53, 56, 48, 55]⟩ : ByteArray).data.toList = 1) := by show _ = _; exact hc2.trans (by unfold sgn; rw [if_neg (by omega), if_pos (by omega)])
        clear hq hvs hc1 hc2 hlo hhi hx1
        go_enter Tryz.func32, Tryz.ntmps32
        go_wp2_with fail
        refine (rvalid_to true _ hs HS.out).mono ?_
        rintro e w1 ⟨rfl, rfl⟩
        go_wp2_with fail
        refine (rcompare_any s _ hs (by decide) _ x1 HC1).mono ?_
        rintro e w2 ⟨rfl, hb2⟩
        have HB2 := Lib.hid hb2
        clear hb2
        go_wp2_with fail
        refine (rcompare_any s _ hs (by decide) _ 1 HC2).mono ?_
        rintro e w3 ⟨rfl, hb3⟩
        go_wp2
        go_ret2
        exact ⟨rfl, HB2.out.trans (hb3.mono HB2.out.size)⟩
      · obtain ⟨rfl, rfl⟩ : k = num s.data.toList ∧ c = 0 := by have h := hq.out; rw [toIntS_in hvs (by omega) (by omega)] at h; exact ⟨(Prod.mk.inj h).1.symm, (Prod.mk.inj h).2.symm⟩
        obtain ⟨x2, hx2⟩ : ∃ x, x = sgn (num s.data.toList - 9223372036854775807) := ⟨_, rfl⟩
        have hx20 : ¬ 0 < x2 := by
          rw [hx2]; unfold sgn
          split
          · decide
          · rw [if_neg (by omega)]; decide
        have HC2 : Hid (cmpS s.data.toList (⟨#[57, 50, 50, 51, 51, 55, 50, 48, 51, 54, 56, 53, 52, 55, 55, 53, 56, 48, 55]⟩ : ByteArray).data.toList = x2) := by show _ = _; rw [hx2]; exact hc2
        obtain ⟨p1, p2, p3, p4⟩ := valid_parts hvs
        have hsz : 0 < s.size := by
          rcases Nat.eq_zero_or_pos s.size with e | e
          · exact absurd (show body s.data.toList = [] by rw [body_pos (.inl e)]; exact List.eq_nil_of_length_eq_zero (by rw [bytes_len]; exact e)) p1
          · exact e
        have hab := num_abs s.data.toList
        have hsg := num_sign hvs
        have HLO := Lib.hid hlo
        have HHI := Lib.hid hhi
        have HD := Lib.hid p3
        clear hq hc1 hc2 hlo hhi hx1 hx2 p1 p2 p3 p4
        by_cases hneg : (s[0].toNat : Int) = 45
        · have hb := body_neg hsz hneg
          have hnn : num s.data.toList < 0 := hsg.2 (by rw [head_is s hsz]; congr 1; apply UInt8.toNat_inj.1; show _ = 45; omega)
          have HV : Hid (num s.data.toList = -(dval s.data.toList.tail : Int)) := by
            show _ = _
            rw [hb] at hab; omega
          rw [hb] at HD
          have HB45 : Hid (∀ f d, 1 ≤ f → f < s.size → s[f]!.toNat = 48 + d → 10 * (dval (s.data.toList.take f).tail : Int) + d ≤ 9223372036854775808 ∧ dval (s.data.toList.take (f + 1)).tail = 10 * dval (s.data.toList.take f).tail + d ∧ d ≤ 9) := by
            intro f d hf1 hf hd
            have h1 := HLO.out
            have h2 := HV.out
            have h4 := bytes_at s f hf
            have h7 : s[f]! = s[f] := getElem!_pos s f hf
            rw [h7] at hd
            obtain ⟨e1, e2, e3⟩ := take_tail h4 hf1
            have h3 := dval_take_le s.data.toList.tail f
            have h6 := dval_take_next e3 hd
            rw [show f - 1 + 1 = f by omega] at h6
            have h5 := List.all_eq_true.1 HD.out _ (List.mem_of_getElem? e3)
            rw [isDig_iff] at h5
            rw [e1, e2]
            exact ⟨by omega, h6, by omega⟩
          have HDG : Hid (∀ f, 1 ≤ f → (h : f < s.size) → ∃ d : Nat, s[f].toNat = 48 + d) := by
            intro f hf1 hf
            obtain ⟨_, _, e3⟩ := take_tail (bytes_at s f hf) hf1
            have h5 := List.all_eq_true.1 HD.out _ (List.mem_of_getElem? e3)
            rw [isDig_iff] at h5
            exact ⟨s[f].toNat - 48, by omega⟩
          clear hb hnn hab hsg
          go_enter Tryz.func32, Tryz.ntmps32
          go_wp2_with fail
          refine (rvalid_to true _ hs HS.out).mono ?_
          rintro e w1 ⟨rfl, rfl⟩
          go_wp2_with fail
          refine (rcompare_any s _ hs (by decide) _ x1 HC1).mono ?_
          rintro e w2 ⟨rfl, hb2⟩
          have HB2 := Lib.hid hb2
          clear hb2
          go_wp2_with fail
          refine (rcompare_any s _ hs (by decide) _ x2 HC2).mono ?_
          rintro e w3 ⟨rfl, hb3⟩
          have HB3 : Hid (Below w.heap.size w w3) := HB2.out.trans (hb3.mono HB2.out.size)
          clear hb3
          go_wp2_with fail
          go_loopw [4, 5] (fun n i wr => ∃ (f v : Nat), n = .int .i64 (-(v : Int)) ∧ i = .int .i64 (f : Int) ∧ f ≤ s.size ∧ Hid (v = dval (s.data.toList.take f).tail ∧ Below w.heap.size w wr)) (fun _ i _ => s.size - (intOf2 i).toNat)
          case atStart => exact ⟨0, 0, by simp, rfl, by omega, by rfl, HB3.out⟩
          case round =>
            clear HB3
            obtain ⟨f, v, rfl, rfl, hf, HR⟩ := hrel
            by_cases hlt : f < s.size
            · by_cases hf0 : f = 0
              · subst hf0
                have HR2 : Hid (v = dval (s.data.toList.take (0 + 1)).tail ∧ Below w.heap.size w wr) := by
                  refine ⟨?_, HR.out.2⟩
                  rw [HR.out.1]
                  cases s.data.toList <;> rfl
                clear HR
                go_wp2
                go_roundw
                case rel => exact ⟨0 + 1, v, rfl, by go_num, by omega, HR2⟩
                case measure => simp [intOf2]; omega
              · obtain ⟨d, hd⟩ := HDG.out f (by omega) hlt
                obtain ⟨b1, b2, hd9⟩ := HB45.out f d (by omega) hlt (by rw [getElem!_pos s f hlt]; exact hd)
                have HR2 : Hid (10 * v + d = dval (s.data.toList.take (f + 1)).tail ∧ Below w.heap.size w wr) := ⟨by rw [b2, HR.out.1], HR.out.2⟩
                have h10 : 10 * (v : Int) + (d : Int) ≤ 9223372036854775808 := by rw [HR.out.1]; exact b1
                have hcc : (48 : Int) + (d : Int) - 48 = (d : Int) := by omega
                have hcn : ((48 : Int) + (d : Int) == 45) = false := by simp; omega
                clear b1 b2 HR hf0
                go_wp2
                go_roundw
                case rel => exact ⟨f + 1, 10 * v + d, by first | (congr 1; done) | (congr 1; omega), by go_num, by omega, HR2⟩
                case measure => simp [intOf2]; omega
            · obtain rfl : f = s.size := by omega
              have HE : Hid (num s.data.toList = -(v : Int)) := by
                show _ = _
                rw [HV.out, HR.out.1, List.take_of_length_le (by rw [bytes_len]; exact Nat.le_refl _)]
              have HBr := Lib.hid HR.out.2
              clear HR
              go_wp2
              go_ret2
              exact ⟨by rw [HE.out]; rfl, HBr.out⟩
        · have hb := body_pos (s := s) (.inr ⟨hsz, hneg⟩)
          have hnn : 0 ≤ num s.data.toList := by
            rcases Int.lt_or_le (num s.data.toList) 0 with h | h
            · have h1 := hsg.1 h
              rw [head_is s hsz] at h1
              exact absurd (by rw [Option.some.inj h1]; rfl) hneg
            · exact h
          have HV : Hid (num s.data.toList = (dval s.data.toList : Int)) := by
            show _ = _
            rw [hb] at hab; omega
          rw [hb] at HD
          have HB45 : Hid (∀ f, f < s.size → 10 * (dval (s.data.toList.take f) : Int) ≤ 9223372036854775807 ∧ (dval (s.data.toList.take (f + 1)) : Int) ≤ 9223372036854775807) := by
            intro f hf
            have h1 := HHI.out
            have h2 := HV.out
            have h3 := dval_take_le s.data.toList (f + 1)
            have h4 := bytes_at s f hf
            have h5 := List.all_eq_true.1 HD.out _ (List.mem_of_getElem? h4)
            rw [isDig_iff] at h5
            have h6 := dval_take_next h4 (d := s[f].toNat - 48) (by omega)
            exact ⟨by omega, by omega⟩
          have hng : ((s[0].toNat : Int) == 45) = false := by simpa using hneg
          clear hb hnn hab hsg
          go_enter Tryz.func32, Tryz.ntmps32
          go_wp2_with fail
          refine (rvalid_to true _ hs HS.out).mono ?_
          rintro e w1 ⟨rfl, rfl⟩
          go_wp2_with fail
          refine (rcompare_any s _ hs (by decide) _ x1 HC1).mono ?_
          rintro e w2 ⟨rfl, hb2⟩
          have HB2 := Lib.hid hb2
          clear hb2
          go_wp2_with fail
          refine (rcompare_any s _ hs (by decide) _ x2 HC2).mono ?_
          rintro e w3 ⟨rfl, hb3⟩
          have HB3 : Hid (Below w.heap.size w w3) := HB2.out.trans (hb3.mono HB2.out.size)
          clear hb3
          go_wp2_with fail
          go_loopw [4, 5] (fun n i wr => ∃ (f v : Nat), n = .int .i64 (v : Int) ∧ i = .int .i64 (f : Int) ∧ f ≤ s.size ∧ Hid (v = dval (s.data.toList.take f) ∧ Below w.heap.size w wr)) (fun _ i _ => s.size - (intOf2 i).toNat)
          case atStart => exact ⟨0, 0, rfl, rfl, by omega, by rfl, HB3.out⟩
          case round =>
            clear HB3
            obtain ⟨f, v, rfl, rfl, hf, HR⟩ := hrel
            by_cases hlt : f < s.size
            · have hb := bytes_at s f hlt
              obtain ⟨d, hd⟩ : ∃ d : Nat, s[f].toNat = 48 + d := ⟨s[f].toNat - 48, by
                have := List.all_eq_true.1 HD.out _ (List.mem_of_getElem? hb)
                rw [isDig_iff] at this; omega⟩
              have hd9 : d ≤ 9 := by
                have := List.all_eq_true.1 HD.out _ (List.mem_of_getElem? hb)
                rw [isDig_iff] at this; omega
              have hbd := HB45.out f hlt
              have hnx := dval_take_next hb hd
              have HR2 : Hid (10 * v + d = dval (s.data.toList.take (f + 1)) ∧ Below w.heap.size w wr) := ⟨by rw [hnx, HR.out.1], HR.out.2⟩
              have h10 : 10 * (v : Int) ≤ 9223372036854775807 := by rw [HR.out.1]; exact hbd.1
              have h10d : 10 * (v : Int) + (d : Int) ≤ 9223372036854775807 := by have h1 := hbd.2; rw [← HR2.out.1] at h1; omega
              have hcc : (48 : Int) + (d : Int) - 48 = (d : Int) := by omega
              have hcn : ((48 : Int) + (d : Int) == 45) = false := by simp; omega
              clear hb hbd hnx HR
              go_wp2
              go_roundw
              case rel => exact ⟨f + 1, 10 * v + d, by first | (congr 1; done) | (congr 1; omega), by go_num, by omega, HR2⟩
              case measure => simp [intOf2]; omega
            · obtain rfl : f = s.size := by omega
              have HE : Hid (num s.data.toList = (v : Int)) := by
                show _ = _
                rw [HV.out, HR.out.1, List.take_of_length_le (by rw [bytes_len]; exact Nat.le_refl _)]
              have HBr := Lib.hid HR.out.2
              clear HR
              go_wp2
              go_ret2
              exact ⟨by rw [HE.out]; rfl, HBr.out⟩
  · have HS : Hid (valid s.data.toList = false) := by show _ = _; simpa using hvs
    obtain ⟨rfl, rfl⟩ : k = 0 ∧ c = 30 := by have h := hq.out; rw [toIntS_bad HS.out] at h; exact ⟨(Prod.mk.inj h).1.symm, (Prod.mk.inj h).2.symm⟩
    clear hvs hq
    go_enter Tryz.func32, Tryz.ntmps32
    go_wp2_with fail
    refine (rvalid_to false _ hs HS.out).mono ?_
    rintro e w1 ⟨rfl, rfl⟩
    go_wp2
    go_ret2
    exact ⟨rfl, Below.refl _ _⟩

end Go.Proofs.Tryz

namespace Go.Proofs.Dt

/-- Between two rounds: the digits below k are zero, the rest is the root's. -/
structure QInv (a M k : Nat) (f : Nat → Int) : Prop where
  dig : ∀ j, 0 ≤ f j ∧ f j < 10
  zero : ∀ j, j < k → f j = 0
  num : ∃ R : Nat, sumTo 10 f M = (R : Int) ∧ R * R ≤ a ∧ a < (R + 10 ^ k) * (R + 10 ^ k)

theorem QInv.start {a M : Nat} (h : a < 10 ^ M * 10 ^ M) : QInv a M M (fun _ => 0) :=
  ⟨fun _ => ⟨by decide, by decide⟩, fun _ _ => rfl, 0, by rw [sumTo_zero]; rfl, by omega, by rw [Nat.zero_add]; exact h⟩

/-- The digit at k - 1 is tried: d. -/
structure PInv (a M k d : Nat) (f : Nat → Int) : Prop where
  d9 : d ≤ 9
  num : ∃ R : Nat, sumTo 10 f M = (R : Int) ∧ R * R ≤ a ∧ a < (R + (d + 1) * 10 ^ (k - 1)) * (R + (d + 1) * 10 ^ (k - 1))

theorem QInv.nine {a M k : Nat} {f : Nat → Int} (h : QInv a M k f) (hk : 0 < k) : PInv a M k 9 f := by
  obtain ⟨R, h1, h2, h3⟩ := h.num
  obtain ⟨m, rfl⟩ : ∃ m, k = m + 1 := ⟨k - 1, by omega⟩
  refine ⟨Nat.le_refl _, R, h1, h2, ?_⟩
  rw [Nat.add_sub_cancel]
  rw [Nat.pow_succ, Nat.mul_comm] at h3
  rw [show (9 + 1) * 10 ^ m = 10 ^ m * 10 by omega]
  exact h3

theorem upd_sum {M k : Nat} {f : Nat → Int} (hk : 0 < k) (hM : k ≤ M) (hz : f (k - 1) = 0) (d R : Nat) (hR : sumTo 10 f M = (R : Int)) : sumTo 10 (fun j => if j = k - 1 then (d : Int) else f j) M = ((R + d * 10 ^ (k - 1) : Nat) : Int) := by
  rw [sumTo_upd, if_pos (by omega), hz, hR, Int.natCast_add, Int.natCast_mul, Int.natCast_pow]
  show (R : Int) + 10 ^ (k - 1) * ((d : Int) - 0) = (R : Int) + (d : Int) * 10 ^ (k - 1)
  rw [Int.sub_zero, Int.mul_comm]

theorem QInv.next {a M k d R : Nat} {f : Nat → Int} (h : QInv a M k f) (hk : 0 < k) (hM : k ≤ M) (hp : PInv a M k d f) (hR : sumTo 10 f M = (R : Int)) (hs : d = 0 ∨ (R + d * 10 ^ (k - 1)) * (R + d * 10 ^ (k - 1)) ≤ a) :
    QInv a M (k - 1) (fun j => if j = k - 1 then (d : Int) else f j) := by
  obtain ⟨R2, h1, h2, h3⟩ := hp.num
  have e : R2 = R := by rw [h1] at hR; omega
  subst e
  have d9 := hp.d9
  refine ⟨fun j => ?_, fun j hj => ?_, R2 + d * 10 ^ (k - 1), upd_sum hk hM (h.zero _ (by omega)) d R2 hR, ?_, ?_⟩
  · by_cases e : j = k - 1
    · simp only [if_pos e]; omega
    · simp only [if_neg e]; exact h.dig j
  · simp only [if_neg (show j ≠ k - 1 by omega)]; exact h.zero j (by omega)
  · rcases hs with e | e
    · rw [e, Nat.zero_mul, Nat.add_zero]; exact h2
    · exact e
  · rw [show R2 + d * 10 ^ (k - 1) + 10 ^ (k - 1) = R2 + (d + 1) * 10 ^ (k - 1) by rw [Nat.add_mul, Nat.one_mul]; omega]; exact h3

theorem PInv.less {a M k d R : Nat} {f : Nat → Int} (hp : PInv a M k d f) (hR : sumTo 10 f M = (R : Int)) (hd : 0 < d) (hs : a < (R + d * 10 ^ (k - 1)) * (R + d * 10 ^ (k - 1))) : PInv a M k (d - 1) f := by
  obtain ⟨R2, h1, h2, _⟩ := hp.num
  have e : R2 = R := by rw [h1] at hR; omega
  subst e
  exact ⟨by have := hp.d9; omega, R2, h1, h2, by rw [show d - 1 + 1 = d by omega]; exact hs⟩

theorem QInv.done {a M : Nat} {f : Nat → Int} (h : QInv a M 0 f) : sumTo 10 f M = ((rt a : Nat) : Int) := by
  obtain ⟨R, h1, h2, h3⟩ := h.num
  rw [Nat.pow_zero] at h3
  rw [h1, rt_eq ⟨h2, h3⟩]

end Go.Proofs.Dt
namespace Go.Proofs.Tryz
open Go.RowKit Go.Shelf Go.Proofs.Dt

theorem ownsRow_lit0 (W : World) : (W.alloc (.cells #[] 3)).ownsRow W.heap.size 3 1 (.slice (some ⟨W.heap.size, 0, none⟩) 0 0) 0 [] :=
  ⟨rfl, .inr ⟨W.heap.size, 0, #[], rfl, Nat.le_refl _, World.alloc_heap_new W _, Nat.le_refl _, by unfold maxLen; omega, rfl, rfl⟩⟩

set_option maxHeartbeats 1000000 in
set_option maxRecDepth 100000 in
theorem rtrimmed_any {v : Value} {xs : List Int} {n : Nat} (w : World) (h : Ints w v xs) (hl : xs.length ≤ 1000) (hd : Dgs 10 xs) (hv : val 10 xs = (n : Int)) : Calls Tryz.prog 56 #[v] w (DPost w n) := by
  obtain ⟨i0, hi, hz0, hz1, hz2⟩ := info_parts info3
  have HD := Lib.hid hd
  have HV := Lib.hid hv
  clear hd hv
  rcases h with ⟨rfl, rfl⟩ | ⟨b1, off, cap, rfl, hcap, hb1, hcs⟩
  · have HI : Hid (Ints (w.alloc (.cells #[] 3)) (.slice (some ⟨w.heap.size, 0, none⟩) 0 0) []) := ownsRow_ints (xs := []) (B := w.heap.size) (ownsRow_lit0 w)
    have HA : Hid (∀ b, b < w.heap.size → Away b (.slice (some ⟨w.heap.size, 0, none⟩) 0 0)) := away_row (ownsRow_lit0 w)
    have HB : Hid (Below w.heap.size w (w.alloc (.cells #[] 3))) := (Below.refl _ w).alloc (Nat.le_refl _) _
    go_enter Tryz.func56, Tryz.ntmps56
    go_wp2_with fail
    generalize w.alloc (.cells #[] 3) = w1 at HI HB ⊢
    refine (rtrim_any (xs := []) _ (by simp) HI.out).mono ?_
    rintro e w2 ⟨v2, k, rfl, hk, hI, haw, rfl⟩
    go_wp2
    go_ret
    exact ⟨_, rfl, ⟨_, hI, rep_trim HD.out HV.out hk.1 hk.2.1 hk.2.2⟩, fun b hb => haw b (HA.out b hb), HB.out⟩
  · have HCS : Hid (∀ (j : Nat) (u : Value), (xs.map (Value.int .i64))[j]? = some u → (w.alloc (.cells #[] 3)).cell? ((⟨b1, off, none⟩ : Addr).add j) = some u) := by
      intro j u hj
      rw [List.getElem?_map] at hj
      obtain ⟨y, hy, rfl⟩ := Option.map_eq_some_iff.1 hj
      have hjl := (List.getElem?_eq_some_iff.1 hy).1
      rw [Addr.add_lit, World.cell?_alloc_past _ _ _ (by simpa using hb1), hcs j hjl, hy]; rfl
    have HONE : Hid (∀ u ∈ xs.map (Value.int .i64), u.oneCell' = true) := by
      intro u hu
      obtain ⟨y, _, rfl⟩ := List.mem_map.1 hu
      rfl
    clear hcs
    go_enter Tryz.func56, Tryz.ntmps56
    go_wp2_with (at_builtin; go_must (refine wpList_append_own _ rfl _ _ 44 rfl w.heap.size 3 i0 (.int .i64 0) 1 8 Tryz.underlying44 hi hz0 hz1 hz2 rfl (by decide) _ _ _ rfl (ownsRow_lit0 w) ⟨b1, off, none⟩ xs.length cap (xs.map (Value.int .i64)) rfl (by simp) ?_ ?_ ?_ ?_ ?_ ?_); rotate_right; intro v2 w2 hown2 hgrow2 _)
    · have hown3 : w2.ownsRow w.heap.size 3 1 v2 xs.length (xs.map (Value.int .i64)) := by have h := hown2; rw [Nat.zero_add, List.nil_append] at h; exact h
      have HIL : Hid (Ints w2 v2 xs) := ownsRow_ints hown3
      have HAL : Hid (∀ b, b < w.heap.size → Away b v2) := away_row hown3
      have HB : Hid (Below w.heap.size w w2) := ((Below.refl _ w).alloc (Nat.le_refl _) _).grown hgrow2 (by simp) (fun k e => by cases e; exact Nat.le_refl _)
      clear hown2 hown3 hgrow2 HCS HONE
      obtain ⟨a2, c2, rfl⟩ := HIL.out.shape
      go_wp2_with fail
      refine (rtrim_any _ (by omega) HIL.out).mono ?_
      rintro e w3 ⟨v3, k, rfl, hk, hI, haw, rfl⟩
      go_wp2
      go_ret
      exact ⟨_, rfl, ⟨_, hI, rep_trim HD.out HV.out hk.1 hk.2.1 hk.2.2⟩, fun b hb => haw b (HAL.out b hb), HB.out⟩
    all_goals (first | exact HCS.out | exact HONE.out | omega | (unfold maxLen; omega) | (simp; done) | (simp; omega))

end Go.Proofs.Tryz

namespace Go.Proofs.Tryz
open Go.RowKit Go.Shelf Go.Proofs.Dt

/-- The integer in a cell. -/
def natAt (W : World) (b i : Nat) : Nat := match W.cell? ⟨b, i, none⟩ with | some (.int _ n) => n.toNat | _ => 0
theorem natAt_eq {W : World} {b i d : Nat} (h : W.cell? ⟨b, i, none⟩ = some (.int .i64 (d : Int))) : natAt W b i = d := by unfold natAt; rw [h]; rfl

theorem root_empty {s : List UInt8} {q1 : ByteArray} {q2 : Int} (h : rootS s = ([], 30)) (hq : rootS s = (q1.data.toList, q2)) : q1 = ⟨#[]⟩ ∧ q2 = 30 := by
  rw [h] at hq
  have h2 := (Prod.mk.inj hq).1
  refine ⟨?_, (Prod.mk.inj hq).2.symm⟩
  obtain ⟨⟨l⟩⟩ := q1
  have : l = [] := h2.symm
  rw [this]
theorem dlim_row {f : Nat → Int} {M R : Nat} (hd : ∀ j, 0 ≤ f j ∧ f j < 10) (h : sumTo 10 f M = (R : Int)) : DLim M R := by
  rw [DLim.iff]
  have h1 := (val_bounds (by decide) (row_dgs hd M)).2
  rw [row_val, h, List.length_map, List.length_range] at h1
  exact Int.ofNat_lt.1 (by rw [Int.natCast_pow]; exact h1)

set_option maxHeartbeats 2000000 in
set_option maxRecDepth 100000 in
theorem rroot_any (s : ByteArray) (hs : s.size ≤ 1000) (w : World) (q1 : ByteArray) (q2 : Int) (hq : Hid (rootS s.data.toList = (q1.data.toList, q2))) :
    Calls Tryz.prog 30 #[.string s] w fun e w' => e = .returned (.tuple #[.string q1, .int .i64 q2]) ∧ Below w.heap.size w w' := by
  by_cases hvs : valid s.data.toList = true
  · have hsz : 0 < s.size := by
      have p1 := (valid_parts hvs).1
      rcases Nat.eq_zero_or_pos s.size with e | e
      · exact absurd (show body s.data.toList = [] by rw [body_pos (.inl e)]; exact List.eq_nil_of_length_eq_zero (by rw [bytes_len]; exact e)) p1
      · exact e
    have hsg := num_sign hvs
    have HS := Lib.hid hvs
    by_cases hneg : (s[0].toNat : Int) = 45
    · have hnn : num s.data.toList < 0 := hsg.2 (by rw [head_is s hsz]; congr 1; apply UInt8.toNat_inj.1; show _ = 45; omega)
      obtain ⟨rfl, rfl⟩ := root_empty (root_no hnn) hq.out
      clear hq hsg hnn hvs
      go_enter Tryz.func30, Tryz.ntmps30
      go_wp2_with fail
      refine (rvalid_to true _ hs HS.out).mono ?_
      rintro e w1 ⟨rfl, rfl⟩
      go_wp2
      go_ret2
      exact ⟨rfl, Below.refl _ _⟩
    · have hng : ((s[0].toNat : Int) == 45) = false := by simpa using hneg
      have hnn : 0 ≤ num s.data.toList := by
        rcases Int.lt_or_le (num s.data.toList) 0 with h | h
        · have h1 := hsg.1 h
          rw [head_is s hsz] at h1
          exact absurd (by rw [Option.some.inj h1]; rfl) hneg
        · exact h
      obtain ⟨a, ha⟩ : ∃ a, a = (num s.data.toList).natAbs := ⟨_, rfl⟩
      have hsv : sv false a = num s.data.toList := by show (a : Int) = _; omega
      have HDS : Hid (valid s.data.toList = true ∧ sv false a = num s.data.toList ∧ false = decide (num s.data.toList < 0)) := ⟨hvs, hsv, (decide_eq_false (by omega)).symm⟩
      have FA : Hid (DLim 200 a) := by show DLim _ _; rw [ha]; exact dlim_num hvs
      have HQ : Hid (res (sv false (rt a)) = (q1.data.toList, q2)) := by
        show _ = _
        rw [← hq.out]
        have e : (num s.data.toList).toNat = a := by omega
        unfold rootS
        rw [hvs, decide_eq_true hnn, e]
        refine res_ok ?_
        rw [sv_abs]
        have h1 := rt_le a
        have h2 := num_lt hvs
        omega
      clear hq hsg hnn hvs ha hsv hneg
      go_enter Tryz.func30, Tryz.ntmps30
      go_wp2_with fail
      refine (rvalid_to true _ hs HS.out).mono ?_
      rintro e w1 ⟨rfl, rfl⟩
      go_wp2_with fail
      refine (digits_to false a _ HDS).mono ?_
      rintro e w3 ⟨ax, lx, cx, rfl, HN3, HB3⟩
      obtain ⟨M, hM⟩ : ∃ M, (lx + 1) / 2 = M := ⟨_, rfl⟩
      have hlx : lx ≤ 200 := by
        obtain ⟨xs, ix, rx⟩ := HN3.out
        obtain ⟨a', c', e⟩ := ix.shape
        simp only [Value.slice.injEq] at e
        rw [e.2.1]
        exact FA.out.len rx
      have HA0 : Hid (a < 10 ^ M * 10 ^ M) := by
        obtain ⟨xs, ix, rx⟩ := HN3.out
        obtain ⟨a', c', e⟩ := ix.shape
        simp only [Value.slice.injEq] at e
        have h1 := rep_bd rx (Nat.le_refl _)
        rw [← e.2.1] at h1
        show _ < _
        rw [← Nat.pow_add]
        exact Nat.lt_of_lt_of_le h1 (Nat.pow_le_pow_right (by decide) (by omega))
      have hL : ((lx : Int) + 1) / 2 = (M : Int) := by omega
      have hM100 : M ≤ 100 := by omega
      have hmk := fun W => run_make_row' (P := Tryz.prog) 44 3 (.int .i64 0) 8 Tryz.underlying44 info3 rfl .i64 .i64 M (by omega) (by omega) W
      have HS0 : Hid (TRow w3 M (fun _ => 0) (w3.alloc (.cells (madeCells #[.int .i64 0] M) 3))) := ⟨World.rowIs_made w3 (.int .i64 0) M 3, (Below.refl _ w3).alloc (Nat.le_refl _) _⟩
      clear hM
      go_wp2_with fail
      clear hmk hL
      go_loopw [7] (fun i wr => ∃ (k : Nat) (f : Nat → Int), i = .int .i64 ((k : Int) - 1) ∧ k ≤ M ∧ Hid (QInv a M k f ∧ TRow w3 M f wr)) (fun i _ => (intOf2 i + 1).toNat)
      case atStart => exact ⟨M, _, rfl, Nat.le_refl _, QInv.start HA0.out, HS0.out⟩
      case round =>
        clear HS0
        obtain ⟨k, f, rfl, hk, HR⟩ := hrel
        by_cases hk0 : 0 < k
        · have hkM : k - 1 < M := by omega
          have e1 : ((k : Int) - 1).toNat = k - 1 := by omega
          have hge : (0 : Int) ≤ (k : Int) - 1 := by omega
          have hk1i : (1 : Int) ≤ (k : Int) := by omega
          have hlt : (k : Int) - 1 < (M : Int) := by omega
          have hff := HR.out.2.row.frozen (k - 1)
          have hcc := HR.out.2.row.cell hkM
          obtain ⟨R, hR, _⟩ := HR.out.1.num
          have HRS : Hid (sumTo 10 f M = (R : Int)) := hR
          have HQI : Hid (QInv a M k f) := HR.out.1
          have HST : Hid (TRow w3 M (fun j => if j = k - 1 then ((9 : Nat) : Int) else f j) (wr.setCell ⟨w3.heap.size, k - 1, none⟩ (.int .i64 9))) := HR.out.2.set (k - 1) 9
          clear hR HR
          go_wp2_with fail
          clear hff hcc
          go_loopw [40] (fun _ wr2 => ∃ d : Nat, d ≤ 9 ∧ Hid (PInv a M k d f ∧ TRow w3 M (fun j => if j = k - 1 then (d : Int) else f j) wr2)) (fun _ wr2 => natAt wr2 w3.heap.size (k - 1))
          case atStart => exact ⟨9, Nat.le_refl _, HQI.out.nine hk0, HST.out⟩
          case round =>
            clear HST
            obtain ⟨d, hd9, HP⟩ := hrel
            have hff := HP.out.2.row.frozen (k - 1)
            have hcc : wr.cell? ⟨w3.heap.size, k - 1, none⟩ = some (.int .i64 (d : Int)) := by
              have h := HP.out.2.row.cell hkM
              rw [if_pos rfl] at h; exact h
            have HNA : Hid (natAt wr w3.heap.size (k - 1) = d) := natAt_eq hcc
            by_cases hd0 : d = 0
            · have HS2 : Hid (QInv a M (k - 1) (fun j => if j = k - 1 then (d : Int) else f j) ∧ TRow w3 M (fun j => if j = k - 1 then (d : Int) else f j) wr) := ⟨HQI.out.next hk0 hk HP.out.1 HRS.out (.inl hd0), HP.out.2⟩
              have hdi : ¬ 0 < (d : Int) := by omega
              clear HP
              go_wp2
              go_roundw
              case rel => exact ⟨k - 1, _, by congr 1; omega, by omega, HS2⟩
              case measure => simp [intOf2]; omega
            · have hdi : 0 < (d : Int) := by omega
              have hdig : ∀ j, 0 ≤ (if j = k - 1 then (d : Int) else f j) ∧ (if j = k - 1 then (d : Int) else f j) < 10 := by
                intro j
                by_cases e : j = k - 1
                · simp only [if_pos e]; omega
                · simp only [if_neg e]; exact HQI.out.dig j
              have hsum := upd_sum hk0 hk (HQI.out.zero _ (by omega)) d R HRS.out
              obtain ⟨T, hT⟩ : ∃ T, T = R + d * 10 ^ (k - 1) := ⟨_, rfl⟩
              rw [← hT] at hsum
              have HT := Lib.hid hT
              have HDL : Hid (DLim 100 T) := (dlim_row hdig hsum).mono hM100
              have HI : Hid (Ints wr (.slice (some ⟨w3.heap.size, 0, none⟩) M M) ((List.range M).map (fun j => if j = k - 1 then (d : Int) else f j))) := row_ints HP.out.2.row
              have HDG : Hid (Dgs 10 ((List.range M).map (fun j => if j = k - 1 then (d : Int) else f j))) := row_dgs hdig M
              have HV : Hid (val 10 ((List.range M).map (fun j => if j = k - 1 then (d : Int) else f j)) = (T : Int)) := by show _ = _; rw [row_val]; exact hsum
              have HLN : Hid (((List.range M).map (fun j => if j = k - 1 then (d : Int) else f j)).length ≤ 1000) := by show _ ≤ _; simp; omega
              have HNa : Hid (DNum wr (.slice ax lx cx) a) := HN3.out.below (Nat.le_refl _) HP.out.2.below
              have HCT : Hid (∀ W, Below wr.heap.size wr W → Calls Tryz.prog 56 #[.slice (some ⟨w3.heap.size, 0, none⟩) M M] W (DPost W T)) := by
                intro W hW
                exact rtrimmed_any W (HI.out.below (Nat.le_refl _) hW) HLN.out HDG.out HV.out
              clear hdig hsum hT hd0 HI HDG HV HLN
              go_wp2_with fail
              refine (HCT.out wr (Below.refl _ _)).mono ?_
              rintro e w5 ⟨r5, rfl, hr5, _, hb5⟩
              obtain ⟨a5, l5, c5, rfl⟩ := hr5.shape
              have HB5 : Hid (Below wr.heap.size wr w5) := hb5
              have HN5 : Hid (DNum w5 (.slice a5 l5 c5) T) := hr5
              clear hr5 hb5
              go_wp2_with fail
              refine (HCT.out w5 HB5.out).mono ?_
              rintro e w6 ⟨r6, rfl, hr6, _, hb6⟩
              obtain ⟨a6, l6, c6, rfl⟩ := hr6.shape
              have HB6 : Hid (Below wr.heap.size wr w6) := HB5.out.trans (hb6.mono HB5.out.size)
              have HN6 : Hid (DNum w6 (.slice a5 l5 c5) T ∧ DNum w6 (.slice a6 l6 c6) T) := ⟨HN5.out.below (Nat.le_refl _) hb6, hr6⟩
              clear hr6 hb6
              go_wp2_with fail
              refine (rtimes_any _ _ T T _ HN6.out.1 HN6.out.2 (HDL.out.mono (by omega)) (HDL.out.mono (by omega))).mono ?_
              rintro e w7 ⟨r7, rfl, hr7, _, hb7⟩
              obtain ⟨a7, l7, c7, rfl⟩ := hr7.shape
              have HB7 : Hid (Below wr.heap.size wr w7) := HB6.out.trans (hb7.mono HB6.out.size)
              have HN7 : Hid (DNum w7 (.slice a7 l7 c7) (T * T)) := hr7
              clear hr7 hb7
              go_wp2_with fail
              refine (rorder_any _ _ (T * T) a _ HN7.out (HNa.out.below (Nat.le_refl _) HB7.out) ((HDL.out.mul HDL.out).mono (by omega))).mono ?_
              rintro e w8 ⟨rfl, hb8⟩
              have HB8 : Hid (Below wr.heap.size wr w8) := HB7.out.trans (hb8.mono HB7.out.size)
              have HROW : Hid (TRow w3 M (fun j => if j = k - 1 then (d : Int) else f j) w8) := HP.out.2.on HB8.out
              have hcc8 : w8.cell? ⟨w3.heap.size, k - 1, none⟩ = some (.int .i64 (d : Int)) := by
                have h := HROW.out.row.cell hkM
                rw [if_pos rfl] at h; exact h
              have hff8 := HROW.out.row.frozen (k - 1)
              clear hb8 hcc hff
              by_cases hlt2 : a < T * T
              · obtain ⟨c, hc⟩ : ∃ c, c = cmpI ((T * T : Nat) : Int) (a : Int) := ⟨_, rfl⟩
                have hc0 : 0 < c := by rw [hc]; unfold cmpI; rw [if_neg (by omega), if_pos (by omega)]; decide
                rw [← hc]
                have HPN : Hid (PInv a M k (d - 1) f) := HP.out.1.less HRS.out (by omega) (by rw [← HT.out]; exact hlt2)
                have hdm : (d : Int) - 1 = ((d - 1 : Nat) : Int) := by omega
                have HSN : Hid (TRow w3 M (fun j => if j = k - 1 then ((d - 1 : Nat) : Int) else f j) (w8.setCell ⟨w3.heap.size, k - 1, none⟩ (.int .i64 ((d - 1 : Nat) : Int)))) := (HROW.out.set (k - 1) ((d - 1 : Nat) : Int)).same (fun j => by by_cases e : j = k - 1 <;> simp [e])
                have HMS : Hid (natAt (w8.setCell ⟨w3.heap.size, k - 1, none⟩ (.int .i64 ((d - 1 : Nat) : Int))) w3.heap.size (k - 1) < natAt wr w3.heap.size (k - 1)) := by
                  show _ < _
                  have h := HSN.out.row.cell hkM
                  rw [if_pos rfl] at h
                  rw [HNA.out, natAt_eq h]; omega
                clear hc hlt2 HP HROW
                go_wp2
                go_roundw
                case rel => exact ⟨d - 1, by omega, HPN.out, HSN.out⟩
                case measure => exact HMS.out
              · obtain ⟨c, hc⟩ : ∃ c, c = cmpI ((T * T : Nat) : Int) (a : Int) := ⟨_, rfl⟩
                have hc0 : ¬ 0 < c := by
                  rw [hc]; unfold cmpI
                  split
                  · decide
                  · rw [if_neg (by omega)]; decide
                rw [← hc]
                have HS2 : Hid (QInv a M (k - 1) (fun j => if j = k - 1 then (d : Int) else f j) ∧ TRow w3 M (fun j => if j = k - 1 then (d : Int) else f j) w8) := ⟨HQI.out.next hk0 hk HP.out.1 HRS.out (.inr (by rw [← HT.out]; omega)), HROW.out⟩
                clear hc hlt2 HP HROW
                go_wp2
                go_roundw
                case rel => exact ⟨k - 1, _, by congr 1; omega, by omega, HS2⟩
                case measure => simp [intOf2]; omega
        · obtain rfl : k = 0 := by omega
          have HI : Hid (Ints wr (.slice (some ⟨w3.heap.size, 0, none⟩) M M) ((List.range M).map f)) := row_ints HR.out.2.row
          have HD := Lib.hid (row_dgs HR.out.1.dig M)
          have HV : Hid (val 10 ((List.range M).map f) = ((rt a : Nat) : Int)) := by show _ = _; rw [row_val]; exact HR.out.1.done
          have HLN : Hid (((List.range M).map f).length ≤ 1000) := by show _ ≤ _; simp; omega
          have HBr : Hid (Below w.heap.size w wr) := HB3.out.trans (HR.out.2.below.mono HB3.out.size)
          have HLR : Hid (DLim 200 (rt a)) := FA.out.le (rt_le a)
          have HC : Hid (∀ W, W = wr → Calls Tryz.prog 37 #[.slice (some ⟨w3.heap.size, 0, none⟩) M M] W (TrimPost (.slice (some ⟨w3.heap.size, 0, none⟩) M M) W ((List.range M).map f))) := by
            intro W e; subst e; exact rtrim_any _ (by have := HLN.out; omega) HI.out
          clear HR
          go_wp2_with fail
          refine (HC.out _ rfl).mono ?_
          rintro e w5 ⟨v2, kk, rfl, hkk, hI, haw, rfl⟩
          have HN : Hid (DNum wr v2 (rt a)) := ⟨_, hI, rep_trim HD.out HV.out hkk.1 hkk.2.1 hkk.2.2⟩
          clear hkk hI haw
          go_wp2_with fail
          refine (rchecked_any false _ (rt a) _ q1 q2 HN.out (HLR.out.mono (by omega)) HQ).mono ?_
          rintro e w6 ⟨rfl, hb6⟩
          go_wp2
          go_ret2
          exact ⟨rfl, HBr.out.trans (hb6.mono HBr.out.size)⟩
  · have HS : Hid (valid s.data.toList = false) := by show _ = _; simpa using hvs
    obtain ⟨rfl, rfl⟩ := root_empty (by unfold rootS; rw [HS.out]; rfl) hq.out
    clear hvs hq
    go_enter Tryz.func30, Tryz.ntmps30
    go_wp2_with fail
    refine (rvalid_to false _ hs HS.out).mono ?_
    rintro e w1 ⟨rfl, rfl⟩
    go_wp2
    go_ret2
    exact ⟨rfl, Below.refl _ _⟩

end Go.Proofs.Tryz
