/- The reference's Valid, digits, plus, minus and order: what they return. -/
import Derived.Test.YtjjmabokoendbaaGreatDoorIZ
import Derived.Test.YtjjmabokoendbaaGreatDoorPA
import Derived.Test.YtjjmabokoendbaaGreatDoorRX
import Derived.Test.YtjjmabokoendbaaGreatDoorIB
namespace Go.Proofs.Dt

theorem v_empty {s : List UInt8} (h : body s = []) : valid s = false := by unfold valid; rw [h]; rfl
theorem v_long {s : List UInt8} (h : 200 < (body s).length) : valid s = false := by
  unfold valid; rw [decide_eq_false (show ¬ (body s).length ≤ 200 by omega), Bool.and_false, Bool.false_and, Bool.false_and]
theorem v_dig {s : List UInt8} (h : (body s).all isDig = false) : valid s = false := by unfold valid; rw [h, Bool.and_false, Bool.false_and]
theorem v_ok {s : List UInt8} (h0 : body s ≠ []) (h1 : (body s).length ≤ 200) (h2 : (body s).all isDig = true) : valid s = (decide (s = [48]) || decide ((body s).head? ≠ some 48)) := by
  unfold valid
  rw [List.isEmpty_eq_false_iff.2 h0, decide_eq_true h1, h2]; rfl
theorem all_false {D : List UInt8} {k : Nat} {c : UInt8} (h : D[k]? = some c) (hc : isDig c = false) : D.all isDig = false := by
  rw [List.all_eq_false]
  exact ⟨c, List.mem_of_getElem? h, by rw [hc]; decide⟩
theorem all_true {D : List UInt8} (h : ∀ (j : Nat) (c : UInt8), D[j]? = some c → isDig c = true) : D.all isDig = true := by
  rw [List.all_eq_true]
  intro c hc
  obtain ⟨j, hj⟩ := List.getElem?_of_mem hc
  exact h j c hj
theorem dig_no {c : UInt8} (h : c.toNat < 48 ∨ 57 < c.toNat) : isDig c = false := by
  cases hc : isDig c with
  | false => rfl
  | true => rw [isDig_iff] at hc; omega
theorem bytes_at (t : ByteArray) (k : Nat) (h : k < t.size) : t.data.toList[k]? = some t[k] := by
  rw [Array.getElem?_toList]; exact Array.getElem?_eq_getElem h
theorem bytes_len (t : ByteArray) : t.data.toList.length = t.size := by rw [Array.length_toList]; rfl
theorem head_is (t : ByteArray) (h : 0 < t.size) : t.data.toList.head? = some t[0] := by rw [List.head?_eq_getElem?]; exact bytes_at t 0 h
theorem body_neg {s : ByteArray} (h0 : 0 < s.size) (h : (s[0].toNat : Int) = 45) : body s.data.toList = s.data.toList.tail := by
  unfold body
  rw [head_is s h0, if_pos]
  congr 1; apply UInt8.toNat_inj.1; show _ = 45; omega
theorem body_pos {s : ByteArray} (h : s.size = 0 ∨ ∃ h0 : 0 < s.size, ¬ (s[0].toNat : Int) = 45) : body s.data.toList = s.data.toList := by
  unfold body
  rw [if_neg]
  rcases h with h | ⟨h0, h⟩
  · have : s.data.toList = [] := List.eq_nil_of_length_eq_zero (by rw [bytes_len]; exact h)
    rw [this]; simp
  · rw [head_is s h0]
    intro e
    apply h
    rw [Option.some.inj e]; rfl
theorem tail_bytes (s : ByteArray) (_h0 : 0 < s.size) : (s.extract 1 s.size).data.toList = s.data.toList.tail := by
  rw [ByteArray.data_extract, Array.toList_extract, List.extract_eq_take_drop, List.drop_one]
  apply List.take_of_length_le
  rw [List.length_tail, bytes_len]; omega
theorem toList_zero {x : ByteArray} : (x.toList == [48]) = true ↔ x.data.toList = [48] := by rw [Go.ByteArray.toList_eq]; simp

end Go.Proofs.Dt
namespace Go.Proofs.Tryz
open Go.RowKit Go.Shelf Go.Proofs.Dt

set_option maxHeartbeats 4000000 in
set_option maxRecDepth 100000 in
theorem rvalid_any (s : ByteArray) (hs : s.size ≤ 9223372036854775806) (w : World) : Calls Tryz.prog 61 #[.string s] w fun e w' => e = .returned (.bool (valid s.data.toList)) ∧ w = w' := by
  by_cases hneg : ∃ h0 : 0 < s.size, (s[0].toNat : Int) = 45
  · obtain ⟨h0, h45⟩ := hneg
    have HB := Lib.hid (body_neg h0 h45)
    have hsz : (s.extract 1 s.size).size = s.size - 1 := by rw [ByteArray.size_extract]; omega
    have HD0 := tail_bytes s h0
    obtain ⟨t, ht⟩ : ∃ t, t = s.extract 1 s.size := ⟨_, rfl⟩
    have HD : Hid (t.data.toList = body s.data.toList) := by show _ = _; rw [ht, HD0, HB.out]
    have hts : t.size ≤ 9223372036854775806 := by rw [ht, hsz]; omega
    have hex : s.extract 1 s.size = t := ht.symm
    have HS : Hid (¬ s.data.toList = [48]) := by
      intro e
      have h1 := head_is s h0
      rw [e] at h1
      have h2 := congrArg UInt8.toNat (Option.some.inj h1)
      have h3 : (48 : UInt8).toNat = 48 := rfl
      omega
    clear HD0 ht hsz
    by_cases h48 : (t.toList == [48]) = true
    · have HF : Hid (valid s.data.toList = false) := by
        show _ = _
        have e : body s.data.toList = [48] := HD.out.symm.trans (toList_zero.1 h48)
        rw [v_ok (by rw [e]; simp) (by rw [e]; simp) (by rw [e]; decide), decide_eq_false HS.out, e]; rfl
      go_enter Tryz.func61, Tryz.ntmps61
      go_wp2
      go_ret
      exact ⟨by rw [HF.out]; rfl, rfl⟩
    · have h48 : (t.toList == [48]) = false := by simpa using h48
      go_enter Tryz.func61, Tryz.ntmps61
      go_wp2_with fail
      clear hex h45 h0
      go_loop [3] (fun i => ∃ k : Nat, i = .int .i64 (k : Int) ∧ k ≤ t.size ∧ Hid (∀ (j : Nat) (c : UInt8), j < k → t.data.toList[j]? = some c → isDig c = true)) (fun i => t.size - (intOf2 i).toNat)
      case atStart => exact ⟨0, rfl, by omega, fun j c h => by omega⟩
      case round =>
        obtain ⟨k, rfl, hk, HK⟩ := hrel
        by_cases hk1 : k < t.size
        · have hb := bytes_at t k hk1
          obtain ⟨u, hu⟩ : ∃ u : Nat, t[k].toNat = u := ⟨_, rfl⟩
          have HC : Hid (t.data.toList[k]? = some t[k] ∧ t[k].toNat = u) := ⟨hb, hu⟩
          clear hb
          by_cases h1 : (u : Int) < 48
          · have HF : Hid (valid s.data.toList = false) := v_dig (by rw [← HD.out]; exact all_false HC.out.1 (dig_no (by have := HC.out.2; omega)))
            go_wp2
            go_ret
            exact ⟨by rw [HF.out]; rfl, rfl⟩
          · by_cases h2 : 57 < (u : Int)
            · have HF : Hid (valid s.data.toList = false) := v_dig (by rw [← HD.out]; exact all_false HC.out.1 (dig_no (by have := HC.out.2; omega)))
              go_wp2
              go_ret
              exact ⟨by rw [HF.out]; rfl, rfl⟩
            · have HK2 : Hid (∀ (j : Nat) (c : UInt8), j < k + 1 → t.data.toList[j]? = some c → isDig c = true) := by
                intro j c hj hc
                by_cases e : j = k
                · subst e
                  rw [HC.out.1] at hc
                  rw [← Option.some.inj hc, isDig_iff]
                  have := HC.out.2; omega
                · exact HK.out j c (by omega) hc
              go_wp2
              go_round
              case rel => exact ⟨k + 1, by go_num, by omega, HK2⟩
              case measure => simp [intOf2]; omega
        · obtain rfl : k = t.size := by omega
          have HA : Hid (t.data.toList.all isDig = true) := all_true fun j c hc => HK.out j c (by have := (List.getElem?_eq_some_iff.1 hc).1; rw [bytes_len] at this; exact this) hc
          clear HK hk
          by_cases h0 : t.size = 0
          · have HF : Hid (valid s.data.toList = false) := v_empty (by rw [← HD.out]; exact List.eq_nil_of_length_eq_zero (by rw [bytes_len]; exact h0))
            clear hk1
            go_wp2
            go_ret
            exact ⟨by rw [HF.out]; rfl, rfl⟩
          · have hp : 0 < t.size := Nat.pos_of_ne_zero h0
            have HNE : Hid (body s.data.toList ≠ []) := by
              show _ ≠ _
              rw [← HD.out]; intro e; have := bytes_len t; rw [e] at this; exact h0 this.symm
            clear h0 hk1
            by_cases h200 : t.size ≤ 200
            · have HV : Hid (valid s.data.toList = (decide (s.data.toList = [48]) || decide ((body s.data.toList).head? ≠ some 48))) := v_ok HNE.out (by rw [← HD.out, bytes_len]; exact h200) (by rw [← HD.out]; exact HA.out)
              obtain ⟨u, hu⟩ : ∃ u : Nat, t[0].toNat = u := ⟨_, rfl⟩
              have HR : Hid (((u : Int) != 48) = valid s.data.toList) := by
                show _ = _
                rw [HV.out, decide_eq_false HS.out, Bool.false_or, ← HD.out, head_is t hp]
                by_cases hc : u = 48
                · rw [decide_eq_false (by rw [Decidable.not_not]; congr 1; apply UInt8.toNat_inj.1; show _ = 48; omega), hc]; rfl
                · rw [decide_eq_true (by intro e; apply hc; rw [← hu, Option.some.inj e]; rfl)]
                  exact bne_iff_ne.2 (by omega)
              go_wp2
              go_ret
              exact ⟨by rw [← HR.out]; rfl, rfl⟩
            · have HF : Hid (valid s.data.toList = false) := v_long (by rw [← HD.out, bytes_len]; omega)
              go_wp2
              go_ret
              exact ⟨by rw [HF.out]; rfl, rfl⟩
  · have hq : s.size = 0 ∨ ∃ h0 : 0 < s.size, ¬ (s[0].toNat : Int) = 45 := by
      rcases Nat.eq_zero_or_pos s.size with e | e
      · exact .inl e
      · exact .inr ⟨e, fun h => hneg ⟨e, h⟩⟩
    have HD : Hid (s.data.toList = body s.data.toList) := (body_pos hq).symm
    clear hneg
    have hts := hs
    clear hs
    go_enter Tryz.func61, Tryz.ntmps61
    rcases hq with hq | ⟨h0, hq⟩
    · go_wp2_with fail
      clear hq
      go_loop [3] (fun i => ∃ k : Nat, i = .int .i64 (k : Int) ∧ k ≤ s.size ∧ Hid (∀ (j : Nat) (c : UInt8), j < k → s.data.toList[j]? = some c → isDig c = true)) (fun i => s.size - (intOf2 i).toNat)
      case atStart => exact ⟨0, rfl, by omega, fun j c h => by omega⟩
      case round =>
        obtain ⟨k, rfl, hk, HK⟩ := hrel
        by_cases hk1 : k < s.size
        · have hb := bytes_at s k hk1
          obtain ⟨u, hu⟩ : ∃ u : Nat, s[k].toNat = u := ⟨_, rfl⟩
          have HC : Hid (s.data.toList[k]? = some s[k] ∧ s[k].toNat = u) := ⟨hb, hu⟩
          clear hb
          by_cases h1 : (u : Int) < 48
          · have HF : Hid (valid s.data.toList = false) := v_dig (by rw [← HD.out]; exact all_false HC.out.1 (dig_no (by have := HC.out.2; omega)))
            go_wp2
            go_ret
            exact ⟨by rw [HF.out]; rfl, rfl⟩
          · by_cases h2 : 57 < (u : Int)
            · have HF : Hid (valid s.data.toList = false) := v_dig (by rw [← HD.out]; exact all_false HC.out.1 (dig_no (by have := HC.out.2; omega)))
              go_wp2
              go_ret
              exact ⟨by rw [HF.out]; rfl, rfl⟩
            · have HK2 : Hid (∀ (j : Nat) (c : UInt8), j < k + 1 → s.data.toList[j]? = some c → isDig c = true) := by
                intro j c hj hc
                by_cases e : j = k
                · subst e
                  rw [HC.out.1] at hc
                  rw [← Option.some.inj hc, isDig_iff]
                  have := HC.out.2; omega
                · exact HK.out j c (by omega) hc
              go_wp2
              go_round
              case rel => exact ⟨k + 1, by go_num, by omega, HK2⟩
              case measure => simp [intOf2]; omega
        · obtain rfl : k = s.size := by omega
          have HA : Hid (s.data.toList.all isDig = true) := all_true fun j c hc => HK.out j c (by have := (List.getElem?_eq_some_iff.1 hc).1; rw [bytes_len] at this; exact this) hc
          clear HK hk
          by_cases h0 : s.size = 0
          · have HF : Hid (valid s.data.toList = false) := v_empty (by rw [← HD.out]; exact List.eq_nil_of_length_eq_zero (by rw [bytes_len]; exact h0))
            clear hk1
            go_wp2
            go_ret
            exact ⟨by rw [HF.out]; rfl, rfl⟩
          · have hp : 0 < s.size := Nat.pos_of_ne_zero h0
            have HNE : Hid (body s.data.toList ≠ []) := by
              show _ ≠ _
              rw [← HD.out]; intro e; have := bytes_len s; rw [e] at this; exact h0 this.symm
            clear h0 hk1
            by_cases h200 : s.size ≤ 200
            · have HV : Hid (valid s.data.toList = (decide (s.data.toList = [48]) || decide ((body s.data.toList).head? ≠ some 48))) := v_ok HNE.out (by rw [← HD.out, bytes_len]; exact h200) (by rw [← HD.out]; exact HA.out)
              by_cases h48 : (s.toList == [48]) = true
              · have HT : Hid (valid s.data.toList = true) := by
                  show _ = _
                  rw [HV.out, decide_eq_true (toList_zero.1 h48)]; rfl
                go_wp2
                go_ret
                exact ⟨by rw [HT.out]; rfl, rfl⟩
              · have h48 : (s.toList == [48]) = false := by simpa using h48
                have HS : Hid (¬ s.data.toList = [48]) := fun e => by rw [toList_zero.2 e] at h48; cases h48
                obtain ⟨u, hu⟩ : ∃ u : Nat, s[0].toNat = u := ⟨_, rfl⟩
                have HR : Hid (((u : Int) != 48) = valid s.data.toList) := by
                  show _ = _
                  rw [HV.out, decide_eq_false HS.out, Bool.false_or, ← HD.out, head_is s hp]
                  by_cases hc : u = 48
                  · rw [decide_eq_false (by rw [Decidable.not_not]; congr 1; apply UInt8.toNat_inj.1; show _ = 48; omega), hc]; rfl
                  · rw [decide_eq_true (by intro e; apply hc; rw [← hu, Option.some.inj e]; rfl)]
                    exact bne_iff_ne.2 (by omega)
                go_wp2
                go_ret
                exact ⟨by rw [← HR.out]; rfl, rfl⟩
            · have HF : Hid (valid s.data.toList = false) := v_long (by rw [← HD.out, bytes_len]; omega)
              go_wp2
              go_ret
              exact ⟨by rw [HF.out]; rfl, rfl⟩
    · go_wp2_with fail
      clear hq
      go_loop [3] (fun i => ∃ k : Nat, i = .int .i64 (k : Int) ∧ k ≤ s.size ∧ Hid (∀ (j : Nat) (c : UInt8), j < k → s.data.toList[j]? = some c → isDig c = true)) (fun i => s.size - (intOf2 i).toNat)
      case atStart => exact ⟨0, rfl, by omega, fun j c h => by omega⟩
      case round =>
        obtain ⟨k, rfl, hk, HK⟩ := hrel
        by_cases hk1 : k < s.size
        · have hb := bytes_at s k hk1
          obtain ⟨u, hu⟩ : ∃ u : Nat, s[k].toNat = u := ⟨_, rfl⟩
          have HC : Hid (s.data.toList[k]? = some s[k] ∧ s[k].toNat = u) := ⟨hb, hu⟩
          clear hb
          by_cases h1 : (u : Int) < 48
          · have HF : Hid (valid s.data.toList = false) := v_dig (by rw [← HD.out]; exact all_false HC.out.1 (dig_no (by have := HC.out.2; omega)))
            go_wp2
            go_ret
            exact ⟨by rw [HF.out]; rfl, rfl⟩
          · by_cases h2 : 57 < (u : Int)
            · have HF : Hid (valid s.data.toList = false) := v_dig (by rw [← HD.out]; exact all_false HC.out.1 (dig_no (by have := HC.out.2; omega)))
              go_wp2
              go_ret
              exact ⟨by rw [HF.out]; rfl, rfl⟩
            · have HK2 : Hid (∀ (j : Nat) (c : UInt8), j < k + 1 → s.data.toList[j]? = some c → isDig c = true) := by
                intro j c hj hc
                by_cases e : j = k
                · subst e
                  rw [HC.out.1] at hc
                  rw [← Option.some.inj hc, isDig_iff]
                  have := HC.out.2; omega
                · exact HK.out j c (by omega) hc
              go_wp2
              go_round
              case rel => exact ⟨k + 1, by go_num, by omega, HK2⟩
              case measure => simp [intOf2]; omega
        · obtain rfl : k = s.size := by omega
          have HA : Hid (s.data.toList.all isDig = true) := all_true fun j c hc => HK.out j c (by have := (List.getElem?_eq_some_iff.1 hc).1; rw [bytes_len] at this; exact this) hc
          clear HK hk
          by_cases h0 : s.size = 0
          · have HF : Hid (valid s.data.toList = false) := v_empty (by rw [← HD.out]; exact List.eq_nil_of_length_eq_zero (by rw [bytes_len]; exact h0))
            clear hk1
            go_wp2
            go_ret
            exact ⟨by rw [HF.out]; rfl, rfl⟩
          · have hp : 0 < s.size := Nat.pos_of_ne_zero h0
            have HNE : Hid (body s.data.toList ≠ []) := by
              show _ ≠ _
              rw [← HD.out]; intro e; have := bytes_len s; rw [e] at this; exact h0 this.symm
            clear h0 hk1
            by_cases h200 : s.size ≤ 200
            · have HV : Hid (valid s.data.toList = (decide (s.data.toList = [48]) || decide ((body s.data.toList).head? ≠ some 48))) := v_ok HNE.out (by rw [← HD.out, bytes_len]; exact h200) (by rw [← HD.out]; exact HA.out)
              by_cases h48 : (s.toList == [48]) = true
              · have HT : Hid (valid s.data.toList = true) := by
                  show _ = _
                  rw [HV.out, decide_eq_true (toList_zero.1 h48)]; rfl
                go_wp2
                go_ret
                exact ⟨by rw [HT.out]; rfl, rfl⟩
              · have h48 : (s.toList == [48]) = false := by simpa using h48
                have HS : Hid (¬ s.data.toList = [48]) := fun e => by rw [toList_zero.2 e] at h48; cases h48
                obtain ⟨u, hu⟩ : ∃ u : Nat, s[0].toNat = u := ⟨_, rfl⟩
                have HR : Hid (((u : Int) != 48) = valid s.data.toList) := by
                  show _ = _
                  rw [HV.out, decide_eq_false HS.out, Bool.false_or, ← HD.out, head_is s hp]
                  by_cases hc : u = 48
                  · rw [decide_eq_false (by rw [Decidable.not_not]; congr 1; apply UInt8.toNat_inj.1; show _ = 48; omega), hc]; rfl
                  · rw [decide_eq_true (by intro e; apply hc; rw [← hu, Option.some.inj e]; rfl)]
                    exact bne_iff_ne.2 (by omega)
                go_wp2
                go_ret
                exact ⟨by rw [← HR.out]; rfl, rfl⟩
            · have HF : Hid (valid s.data.toList = false) := v_long (by rw [← HD.out, bytes_len]; omega)
              go_wp2
              go_ret
              exact ⟨by rw [HF.out]; rfl, rfl⟩

end Go.Proofs.Tryz

namespace Go.Proofs.Dt

theorem undigs_cons (c : UInt8) (r : List UInt8) : undigs (c :: r) = undigs r ++ [((c.toNat - 48 : Nat) : Int)] := by simp [undigs]
theorem undigs_nil : undigs [] = [] := rfl
theorem undigs_drop {D : List UInt8} {f : Nat} {c : UInt8} (h0 : 0 < f) (h : D[f - 1]? = some c) : undigs (D.drop (f - 1)) = undigs (D.drop f) ++ [((c.toNat - 48 : Nat) : Int)] := by
  obtain ⟨h1, h2⟩ := List.getElem?_eq_some_iff.1 h
  rw [List.drop_eq_getElem_cons h1, undigs_cons, show f - 1 + 1 = f by omega, h2]
theorem rep_undigs {D : List UInt8} (hd : D.all isDig = true) (hh : D.head? ≠ some 48) : RepN 10 (undigs D) (dval D) := ⟨undigs_good hd, undigs_norm hd hh, val_undigs D⟩

end Go.Proofs.Dt
namespace Go.Proofs.Tryz
open Go.RowKit Go.Shelf Go.Proofs.Dt

/-- The slice value v is the number n, digit by digit. -/
def DNum (W : World) (v : Value) (n : Nat) : Prop := ∃ xs, Ints W v xs ∧ RepN 10 xs n
theorem DNum.below {W W' : World} {v : Value} {n : Nat} (h : DNum W v n) {k : Nat} (hk : W.heap.size ≤ k) (hb : Below k W W') : DNum W' v n :=
  let ⟨xs, h1, h2⟩ := h; ⟨xs, h1.below hk hb, h2⟩
theorem DNum.shape {W : World} {v : Value} {n : Nat} (h : DNum W v n) : ∃ a l c, v = .slice a l c := by
  obtain ⟨xs, ix, _⟩ := h
  obtain ⟨a, c, e⟩ := ix.shape
  exact ⟨a, _, c, e⟩

set_option maxHeartbeats 4000000 in
set_option maxRecDepth 100000 in
theorem digits_any (s : ByteArray) (hv : valid s.data.toList = true) (w : World) : Calls Tryz.prog 62 #[.string s] w fun e w' => ∃ v, e = .returned (.tuple #[.bool (decide (num s.data.toList < 0)), v]) ∧ DNum w' v (num s.data.toList).natAbs ∧ Below w.heap.size w w' := by
  obtain ⟨p1, p2, p3, p4⟩ := valid_parts hv
  have hab := num_abs s.data.toList
  have hsg := num_sign hv
  have hlen : s.data.toList.length ≤ 201 := by
    unfold body at p2
    split at p2
    · rw [List.length_tail] at p2; omega
    · omega
  rw [bytes_len] at hlen
  have hsz : 0 < s.size := by
    rcases Nat.eq_zero_or_pos s.size with e | e
    · exact absurd (show body s.data.toList = [] by rw [body_pos (.inl e)]; exact List.eq_nil_of_length_eq_zero (by rw [bytes_len]; exact e)) p1
    · exact e
  obtain ⟨i0, hi, hz0, hz1, hz2⟩ := info_parts info3
  rw [hab]
  by_cases hneg : (s[0].toNat : Int) = 45
  · have HB := Lib.hid (body_neg hsz hneg)
    have hszx : (s.extract 1 s.size).size = s.size - 1 := by rw [ByteArray.size_extract]; omega
    have HD0 := tail_bytes s hsz
    have hsgn : decide (num s.data.toList < 0) = true := decide_eq_true (hsg.2 (by rw [head_is s hsz]; congr 1; apply UInt8.toNat_inj.1; show _ = 45; omega))
    have HP4 : Hid ((body s.data.toList).head? ≠ some 48) := by
      rcases p4 with e | e
      · have h1 := head_is s hsz
        rw [e] at h1
        have h2 := congrArg UInt8.toNat (Option.some.inj h1)
        have h3 : (48 : UInt8).toNat = 48 := rfl
        omega
      · exact e
    have HP3 := Lib.hid p3
    rw [hsgn]
    clear p1 p2 p3 p4 hab hsg hsgn hv
    obtain ⟨t, ht⟩ : ∃ t, t = s.extract 1 s.size := ⟨_, rfl⟩
    have HB : Hid (t.data.toList = body s.data.toList) := by show _ = _; rw [ht, HD0, HB.out]
    have HD : Hid (t.data.toList.all isDig = true) := by show _ = _; rw [HB.out]; exact HP3.out
    have HH : Hid (t.data.toList.head? ≠ some 48) := by show _ ≠ _; rw [HB.out]; exact HP4.out
    have hts : t.size ≤ 201 := by rw [ht, hszx]; omega
    have hex : s.extract 1 s.size = t := ht.symm
    have h48 : (t.toList == [48]) = false := by
      cases h : (t.toList == [48]) with
      | false => rfl
      | true => exact absurd (by rw [toList_zero.1 h]; rfl) HH.out
    clear HD0 ht hszx
    go_enter Tryz.func62, Tryz.ntmps62
    go_wp2_with fail
    clear hex
    go_loopw [5, 6] (fun v i wr => ∃ f : Nat, i = .int .i64 ((f : Int) - 1) ∧ f ≤ t.size ∧ Hid (wr.ownsRow w.heap.size 3 1 v (undigs (t.data.toList.drop f)).length ((undigs (t.data.toList.drop f)).map (Value.int .i64)) ∧ Below w.heap.size w wr)) (fun v i wr => (intOf2 i + 1).toNat)
    case atStart =>
      refine ⟨t.size, rfl, Nat.le_refl _, ?_⟩
      rw [List.drop_of_length_le (by rw [bytes_len]; exact Nat.le_refl _)]
      exact ⟨⟨rfl, .inl ⟨rfl, rfl⟩⟩, Below.refl _ _⟩
    case round =>
      obtain ⟨f, rfl, hf, HR⟩ := hrel
      by_cases hf0 : 0 < f
      · have hlt : f - 1 < t.size := by omega
        have hb := bytes_at t (f - 1) hlt
        obtain ⟨c, hc⟩ : ∃ c : Nat, t[f - 1].toNat = 48 + c := ⟨t[f - 1].toNat - 48, by
          have := List.all_eq_true.1 HD.out _ (List.mem_of_getElem? hb)
          rw [isDig_iff] at this; omega⟩
        have hc9 : c ≤ 9 := by
          have := List.all_eq_true.1 HD.out _ (List.mem_of_getElem? hb)
          rw [isDig_iff] at this; omega
        have HX : Hid (undigs (t.data.toList.drop (f - 1)) = undigs (t.data.toList.drop f) ++ [(c : Int)]) := by
          show _ = _
          rw [undigs_drop hf0 hb, hc]; congr 2; omega
        clear hb
        have hcc : (48 : Int) + (c : Int) - 48 = (c : Int) := by omega
        have e1 : ((f : Int) - 1).toNat = f - 1 := by omega
        have hsz2 := HR.out.2.size
        have HL : Hid ((undigs (t.data.toList.drop f)).length ≤ 1001) := by show _ ≤ _; unfold undigs; simp; omega
        go_wp2_with (at_builtin; go_must (refine wpList_append_own _ rfl _ _ 56 rfl w.heap.size 3 i0 (.int .i64 0) 1 8 Tryz.underlying56 hi hz0 hz1 hz2 rfl (by decide) _ _ _ rfl (HR.out.1.alloc _) ⟨wr.heap.size, 0, none⟩ 1 1 [.int .i64 (c : Int)] rfl rfl ?_ ?_ ?_ ?_ ?_ ?_); rotate_right; intro v2 w2 hown2 hgrow2 _)
        · have HS : Hid (w2.ownsRow w.heap.size 3 1 v2 (undigs (t.data.toList.drop (f - 1))).length ((undigs (t.data.toList.drop (f - 1))).map (Value.int .i64)) ∧ Below w.heap.size w w2) := by
            refine ⟨?_, (HR.out.2.alloc hsz2 _).grown hgrow2 (by simp; omega) (fun j hj => (HR.out.1.lt j hj).1)⟩
            rw [HX.out, List.length_append, List.map_append]; exact hown2
          go_roundw
          case rel => exact ⟨f - 1, by congr 1; omega, by omega, HS⟩
          case measure => simp [intOf2]; omega
        · exact cell_one_new _ _ _
        · simp [Value.oneCell']
        · have := HL.out; unfold maxLen; omega
        · have := HL.out; omega
        · simp; omega
      · obtain rfl : f = 0 := by omega
        go_wp2
        go_ret2
        exact ⟨_, rfl, ⟨_, ownsRow_ints HR.out.1, by rw [← HB.out]; exact rep_undigs HD.out HH.out⟩, HR.out.2⟩
  · have hb := body_pos (s := s) (.inr ⟨hsz, hneg⟩)
    have hsgn : decide (num s.data.toList < 0) = false := decide_eq_false (fun h => by
      have h1 := hsg.1 h
      rw [head_is s hsz] at h1
      exact hneg (by rw [Option.some.inj h1]; rfl))
    rw [hsgn]
    by_cases h0 : s.data.toList = [48]
    · have h48 : (s.toList == [48]) = true := toList_zero.2 h0
      have hs1 : s.size = 1 := by rw [← bytes_len, h0]; rfl
      have hng : ((s[0].toNat : Int) == 45) = false := by simpa using hneg
      have HZ : Hid (dval (body s.data.toList) = 0) := by show _ = _; rw [hb, h0]; rfl
      clear p1 p2 p3 p4 hab hsg hsgn hv hb h0
      go_enter Tryz.func62, Tryz.ntmps62
      go_wp2
      refine wp_loop_rounds 1 ?_
      rw [rounds_succ]
      go_wp2
      go_ret2
      exact ⟨_, rfl, ⟨[], Ints.nil _, by rw [HZ.out]; exact ⟨Dgs.nil _, Nrm.nil, rfl⟩⟩, Below.refl _ _⟩
    · have h48 : (s.toList == [48]) = false := by
        cases h : (s.toList == [48]) with
        | false => rfl
        | true => exact absurd (toList_zero.1 h) h0
      have HB : Hid (s.data.toList = body s.data.toList) := hb.symm
      have HD : Hid (s.data.toList.all isDig = true) := by show _ = _; rw [HB.out]; exact p3
      have HH : Hid (s.data.toList.head? ≠ some 48) := by show _ ≠ _; rw [HB.out]; exact p4.resolve_left h0
      have hts : s.size ≤ 201 := hlen
      have hng : ((s[0].toNat : Int) == 45) = false := by simpa using hneg
      clear p1 p2 p3 p4 hab hsg hsgn hv hb h0
      go_enter Tryz.func62, Tryz.ntmps62
      go_wp2_with fail
      go_loopw [5, 6] (fun v i wr => ∃ f : Nat, i = .int .i64 ((f : Int) - 1) ∧ f ≤ s.size ∧ Hid (wr.ownsRow w.heap.size 3 1 v (undigs (s.data.toList.drop f)).length ((undigs (s.data.toList.drop f)).map (Value.int .i64)) ∧ Below w.heap.size w wr)) (fun v i wr => (intOf2 i + 1).toNat)
      case atStart =>
        refine ⟨s.size, rfl, Nat.le_refl _, ?_⟩
        rw [List.drop_of_length_le (by rw [bytes_len]; exact Nat.le_refl _)]
        exact ⟨⟨rfl, .inl ⟨rfl, rfl⟩⟩, Below.refl _ _⟩
      case round =>
        obtain ⟨f, rfl, hf, HR⟩ := hrel
        by_cases hf0 : 0 < f
        · have hlt : f - 1 < s.size := by omega
          have hb := bytes_at s (f - 1) hlt
          obtain ⟨c, hc⟩ : ∃ c : Nat, s[f - 1].toNat = 48 + c := ⟨s[f - 1].toNat - 48, by
            have := List.all_eq_true.1 HD.out _ (List.mem_of_getElem? hb)
            rw [isDig_iff] at this; omega⟩
          have hc9 : c ≤ 9 := by
            have := List.all_eq_true.1 HD.out _ (List.mem_of_getElem? hb)
            rw [isDig_iff] at this; omega
          have HX : Hid (undigs (s.data.toList.drop (f - 1)) = undigs (s.data.toList.drop f) ++ [(c : Int)]) := by
            show _ = _
            rw [undigs_drop hf0 hb, hc]; congr 2; omega
          clear hb
          have hcc : (48 : Int) + (c : Int) - 48 = (c : Int) := by omega
          have e1 : ((f : Int) - 1).toNat = f - 1 := by omega
          have hsz2 := HR.out.2.size
          have HL : Hid ((undigs (s.data.toList.drop f)).length ≤ 1001) := by show _ ≤ _; unfold undigs; simp; omega
          go_wp2_with (at_builtin; go_must (refine wpList_append_own _ rfl _ _ 56 rfl w.heap.size 3 i0 (.int .i64 0) 1 8 Tryz.underlying56 hi hz0 hz1 hz2 rfl (by decide) _ _ _ rfl (HR.out.1.alloc _) ⟨wr.heap.size, 0, none⟩ 1 1 [.int .i64 (c : Int)] rfl rfl ?_ ?_ ?_ ?_ ?_ ?_); rotate_right; intro v2 w2 hown2 hgrow2 _)
          · have HS : Hid (w2.ownsRow w.heap.size 3 1 v2 (undigs (s.data.toList.drop (f - 1))).length ((undigs (s.data.toList.drop (f - 1))).map (Value.int .i64)) ∧ Below w.heap.size w w2) := by
              refine ⟨?_, (HR.out.2.alloc hsz2 _).grown hgrow2 (by simp; omega) (fun j hj => (HR.out.1.lt j hj).1)⟩
              rw [HX.out, List.length_append, List.map_append]; exact hown2
            go_roundw
            case rel => exact ⟨f - 1, by congr 1; omega, by omega, HS⟩
            case measure => simp [intOf2]; omega
          · exact cell_one_new _ _ _
          · simp [Value.oneCell']
          · have := HL.out; unfold maxLen; omega
          · have := HL.out; omega
          · simp; omega
        · obtain rfl : f = 0 := by omega
          go_wp2
          go_ret2
          exact ⟨_, rfl, ⟨_, ownsRow_ints HR.out.1, by rw [← HB.out]; exact rep_undigs HD.out HH.out⟩, HR.out.2⟩

end Go.Proofs.Tryz

namespace Go.Proofs.Dt

theorem nrm_of_ge {B : Int} (hB : 1 < B) {l : List Int} (hd : Dgs B l) (h : l = [] ∨ B ^ (l.length - 1) ≤ val B l) : Nrm l := by
  rcases h with h | h
  · rw [h]; exact Nrm.nil
  · by_cases h0 : l = []
    · rw [h0]; exact Nrm.nil
    · intro e
      have e2 : l = l.dropLast ++ [0] := by
        have h1 := List.dropLast_concat_getLast h0
        rw [List.getLast?_eq_some_getLast h0] at e
        rw [Option.some.inj e] at h1
        exact h1.symm
      have hd2 : Dgs B l.dropLast := fun x hx => hd x (List.dropLast_subset l hx)
      have h2 := (val_bounds (by omega) hd2).2
      rw [List.length_dropLast] at h2
      rw [e2, val_append, val_cons, val_nil] at h
      simp only [List.length_append, List.length_singleton, List.length_dropLast, Int.mul_zero, Int.add_zero, Nat.add_sub_cancel] at h
      omega

/-- Between two rounds of the sum of two lists: k digits are out, and a carry. -/
structure SInv (xs ys : List Int) (T : Nat) (k : Nat) (c : Int) (zs : List Int) : Prop where
  len : zs.length = k
  dgs : Dgs 10 zs
  val : val 10 zs + 10 ^ k * c = sumTo 10 (fun i => xs[i]?.getD 0 + ys[i]?.getD 0) k
  c0 : 0 ≤ c
  c1 : c ≤ 1
  pos : k = 0 ∨ (10 : Int) ^ (k - 1) ≤ T

theorem SInv.start (xs ys : List Int) (T : Nat) : SInv xs ys T 0 0 [] := ⟨rfl, Dgs.nil _, rfl, by decide, by decide, .inl rfl⟩

theorem rep_ge {xs : List Int} {a k : Nat} (h : RepN 10 xs a) (hk : k < xs.length) : (10 : Int) ^ k ≤ a := by
  have h0 : xs ≠ [] := by intro e; rw [e] at hk; simp at hk
  have h1 := val_lower (by decide) h.good h.norm h0
  rw [h.val] at h1
  exact Int.le_trans (pow_mono (by decide) (by omega)) h1

theorem sum_total {xs ys : List Int} {a b k : Nat} (hx : RepN 10 xs a) (hy : RepN 10 ys b) (h1 : xs.length ≤ k) (h2 : ys.length ≤ k) : sumTo 10 (fun i => xs[i]?.getD 0 + ys[i]?.getD 0) k = ((a + b : Nat) : Int) := by
  rw [sumTo_add, sumTo_all _ _ _ h1, sumTo_all _ _ _ h2, hx.val, hy.val]; omega

theorem SInv.next {xs ys : List Int} {a b k : Nat} {c n : Int} {zs : List Int} (h : SInv xs ys (a + b) k c zs) (hx : RepN 10 xs a) (hy : RepN 10 ys b) (hn : n = c + (xs[k]?.getD 0 + ys[k]?.getD 0))
    (hrun : k < xs.length ∨ k < ys.length ∨ 0 < c) : SInv xs ys (a + b) (k + 1) (n / 10) (zs ++ [n % 10]) := by
  have g1 := hx.good.get (by decide) k
  have g2 := hy.good.get (by decide) k
  have c0 := h.c0; have c1 := h.c1
  refine ⟨by rw [List.length_append, h.len]; rfl, h.dgs.append (Dgs.one (by omega) (by omega)), ?_, by omega, by omega, .inr ?_⟩
  · rw [val_append, val_cons, val_nil, h.len]
    show _ = sumTo 10 _ k + 10 ^ k * (xs[k]?.getD 0 + ys[k]?.getD 0)
    rw [← h.val, Int.pow_succ]
    have e : xs[k]?.getD 0 + ys[k]?.getD 0 = n - c := by omega
    rw [e]
    generalize (10 : Int) ^ k = p
    have hdm := Int.emod_add_mul_ediv n 10
    generalize n / 10 = q at *
    generalize n % 10 = r at *
    grind
  · rw [Nat.add_sub_cancel]
    by_cases h1 : k < xs.length
    · have := rep_ge hx h1; omega
    · by_cases h2 : k < ys.length
      · have := rep_ge hy h2; omega
      · have hc : 0 < c := by omega
        have ht := sum_total hx hy (k := k) (by omega) (by omega)
        have hv := h.val
        rw [ht] at hv
        have hb := (val_bounds (by decide) h.dgs).1
        have : c = 1 := by omega
        subst this
        omega

theorem SInv.done {xs ys : List Int} {a b k : Nat} {c : Int} {zs : List Int} (h : SInv xs ys (a + b) k c zs) (hx : RepN 10 xs a) (hy : RepN 10 ys b) (h1 : ¬ k < xs.length) (h2 : ¬ k < ys.length) (hc : ¬ 0 < c) : RepN 10 zs (a + b) := by
  have hc0 : c = 0 := by have := h.c0; omega
  have hv := h.val
  rw [sum_total hx hy (by omega) (by omega), hc0, Int.mul_zero, Int.add_zero] at hv
  refine ⟨h.dgs, nrm_of_ge (by decide) h.dgs ?_, hv⟩
  rcases h.pos with e | e
  · exact .inl (List.eq_nil_of_length_eq_zero (by rw [h.len]; exact e))
  · exact .inr (by rw [h.len, hv]; exact e)
theorem SInv.short {xs ys : List Int} {a b k : Nat} {c : Int} {zs : List Int} (h : SInv xs ys (a + b) k c zs) {m : Nat} (hm : a + b < 10 ^ m) : k ≤ m := by
  rcases h.pos with e | e
  · omega
  · rcases Nat.lt_or_ge m k with hk | hk
    · have h1 : (10 : Int) ^ m ≤ 10 ^ (k - 1) := pow_mono (by decide) (by omega)
      have h2 : ((a + b : Nat) : Int) < ((10 ^ m : Nat) : Int) := Int.ofNat_lt.2 hm
      rw [Int.natCast_pow] at h2
      have h3 : ((10 : Nat) : Int) = 10 := rfl
      rw [h3] at h2
      omega
    · exact hk

/-- The same for differences: a borrow. -/
structure MInv (xs ys : List Int) (k : Nat) (c : Int) (zs : List Int) : Prop where
  len : zs.length = k
  dgs : Dgs 10 zs
  val : val 10 zs - 10 ^ k * c = sumTo 10 (fun i => xs[i]?.getD 0 - ys[i]?.getD 0) k
  c0 : 0 ≤ c
  c1 : c ≤ 1

theorem MInv.start (xs ys : List Int) : MInv xs ys 0 0 [] := ⟨rfl, Dgs.nil _, rfl, by decide, by decide⟩

theorem MInv.next {xs ys : List Int} {a b k : Nat} {c n d : Int} {zs : List Int} (h : MInv xs ys k c zs) (hx : RepN 10 xs a) (hy : RepN 10 ys b) (hn : n = xs[k]?.getD 0 - c - ys[k]?.getD 0)
    {e : Int} (hd : (n < 0 ∧ d = n + 10 ∧ e = 1) ∨ (0 ≤ n ∧ d = n ∧ e = 0)) : MInv xs ys (k + 1) e (zs ++ [d]) := by
  have g1 := hx.good.get (by decide) k
  have g2 := hy.good.get (by decide) k
  have c0 := h.c0; have c1 := h.c1
  refine ⟨by rw [List.length_append, h.len]; rfl, h.dgs.append (Dgs.one (by omega) (by omega)), ?_, by omega, by omega⟩
  rw [val_append, val_cons, val_nil, h.len]
  show _ = sumTo 10 _ k + 10 ^ k * (xs[k]?.getD 0 - ys[k]?.getD 0)
  rw [← h.val, Int.pow_succ]
  have e1 : xs[k]?.getD 0 - ys[k]?.getD 0 = d - 10 * e + c := by omega
  rw [e1]
  generalize (10 : Int) ^ k = p
  grind

theorem MInv.done {xs ys : List Int} {a b k : Nat} {c : Int} {zs : List Int} (h : MInv xs ys k c zs) (hx : RepN 10 xs a) (hy : RepN 10 ys b) (hba : b ≤ a) (h1 : k = xs.length) : Dt.val 10 zs = ((a - b : Nat) : Int) := by
  have hlen : ys.length ≤ xs.length := by
    rcases Nat.lt_or_ge xs.length ys.length with e | e
    · have h2 := rep_ge hy e
      have h3 := (val_bounds (by decide) hx.good).2
      rw [hx.val] at h3
      omega
    · exact e
  have hv := h.val
  rw [sumTo_sub, sumTo_all _ _ _ (by omega), sumTo_all _ _ _ (by omega), hx.val, hy.val] at hv
  have hb := val_bounds (by decide) h.dgs
  rw [h.len] at hb
  have c0 := h.c0; have c1 := h.c1
  have : c = 0 := by
    by_cases e : c = 0
    · exact e
    · have : c = 1 := by omega
      subst this
      omega
  subst this
  omega

end Go.Proofs.Dt

namespace Go.Proofs.Tryz
open Go.RowKit Go.Shelf Go.Proofs.Dt

/-- Of at most k digits. -/
@[irreducible] def DLim (k n : Nat) : Prop := n < 10 ^ k
theorem DLim.iff {k n : Nat} : DLim k n ↔ n < 10 ^ k := by unfold DLim; exact Iff.rfl
theorem DLim.le {k m n : Nat} (h : DLim k n) (hm : m ≤ n) : DLim k m := DLim.iff.2 (Nat.lt_of_le_of_lt hm (DLim.iff.1 h))
theorem DLim.mono {j k n : Nat} (h : DLim j n) (hk : j ≤ k) : DLim k n := DLim.iff.2 (Nat.lt_of_lt_of_le (DLim.iff.1 h) (Nat.pow_le_pow_right (by decide) hk))
theorem DLim.len {k : Nat} {xs : List Int} {n : Nat} (h : DLim k n) (r : RepN 10 xs n) : xs.length ≤ k :=
  r.length (by decide) (by have := Int.ofNat_lt.2 (DLim.iff.1 h); rw [Int.natCast_pow] at this; exact this)
theorem DLim.mul {j k a c : Nat} (h : DLim j a) (hc : DLim k c) : DLim (j + k) (a * c) := by
  rw [DLim.iff] at *; rw [Nat.pow_add]; exact Nat.mul_lt_mul'' h hc
theorem DLim.add {k a c : Nat} (h : DLim k a) (hc : DLim k c) : DLim (k + 1) (a + c) := by
  rw [DLim.iff] at *; rw [Nat.pow_succ]; omega

/-- What returns a list of digits. -/
def DPost (w : World) (n : Nat) (e : Ending) (w' : World) : Prop := ∃ r, e = .returned r ∧ DNum w' r n ∧ (∀ b, b < w.heap.size → Away b r) ∧ Below w.heap.size w w'

theorem sinv_short {xs ys : List Int} {a b k m : Nat} {c : Int} {zs : List Int} (h : SInv xs ys (a + b) k c zs) (hf : DLim m (a + b)) : k ≤ m := h.short (DLim.iff.1 hf)
theorem ints_at {W : World} {aa : Option Addr} {l c : Nat} {xs : List Int} {k : Nat} (h : Ints W (.slice aa l c) xs) (hk : k < xs.length) :
    ∃ b off, aa = some ⟨b, off, none⟩ ∧ W.cell? ⟨b, off + k, none⟩ = some (.int .i64 (xs[k]?.getD 0)) := by
  rcases h with ⟨e, rfl⟩ | ⟨b, off, cap, e, _, _, hc⟩
  · simp at hk
  · simp only [Value.slice.injEq] at e
    exact ⟨b, off, e.1, hc k hk⟩
theorem away_row {W : World} {B : Nat} {v : Value} {n : Nat} {xs : List Value} (h : W.ownsRow B 3 1 v n xs) : ∀ b, b < B → Away b v := by
  intro b hb a l c e
  rcases h.2 with ⟨h1, _⟩ | ⟨g, cap, cur, h1, h2, _⟩
  · rw [h1] at e; cases e
  · rw [h1] at e
    simp only [Value.slice.injEq, Option.some.injEq] at e
    rw [← e.1]
    show g ≠ b
    omega

set_option maxHeartbeats 4000000 in
set_option maxRecDepth 100000 in
theorem rplus_any (v u : Value) (a b : Nat) (w : World) (ha : DNum w v a) (hb : DNum w u b) (hf : DLim 1000 (a + b)) : Calls Tryz.prog 94 #[v, u] w (DPost w (a + b)) := by
  obtain ⟨xs, ix, rx⟩ := ha
  obtain ⟨ys, iy, ry⟩ := hb
  have hlx := (hf.le (Nat.le_add_right a b)).len rx
  have hly := (hf.le (Nat.le_add_left b a)).len ry
  obtain ⟨av, cv, rfl⟩ := ix.shape
  obtain ⟨au, cu, rfl⟩ := iy.shape
  have HX := Lib.hid ix
  have HY := Lib.hid iy
  have RX := Lib.hid rx
  have RY := Lib.hid ry
  have HF := Lib.hid hf
  clear ix iy rx ry hf
  obtain ⟨i0, hi, hz0, hz1, hz2⟩ := info_parts info3
  go_enter Tryz.func94, Tryz.ntmps94
  go_wp2_with fail
  go_loopw [5, 6, 7] (fun o c i wr => ∃ (k : Nat) (cc : Int) (zs : List Int), i = .int .i64 (k : Int) ∧ c = .int .i64 cc ∧ k ≤ 1000 ∧ 0 ≤ cc ∧ cc ≤ 1 ∧ Hid (SInv xs ys (a + b) k cc zs ∧ wr.ownsRow w.heap.size 3 1 o zs.length (zs.map (Value.int .i64)) ∧ Below w.heap.size w wr)) (fun _ _ i _ => 1001 - (intOf2 i).toNat)
  case atStart => exact ⟨0, 0, [], rfl, rfl, by omega, by decide, by decide, SInv.start _ _ _, ⟨rfl, .inl ⟨rfl, rfl⟩⟩, Below.refl _ _⟩
  case round =>
    obtain ⟨k, cc, zs, rfl, rfl, hk, hc0, hc1, HR⟩ := hrel
    have hsz2 := HR.out.2.2.size
    have HL : Hid (zs.length ≤ 1000) := by show _ ≤ _; rw [HR.out.1.len]; exact hk
    by_cases h1 : k < xs.length
    · by_cases h2 : k < ys.length
      · obtain ⟨bx, ox, rfl, hcx⟩ := ints_at (HX.out.below (Nat.le_refl _) HR.out.2.2) h1
        obtain ⟨x, hx⟩ : ∃ x, x = xs[k]?.getD 0 := ⟨_, rfl⟩
        rw [← hx] at hcx
        obtain ⟨x0, x1⟩ : 0 ≤ x ∧ x < 10 := by rw [hx]; exact RX.out.good.get (by decide) k
        obtain ⟨by', oy, rfl, hcy⟩ := ints_at (HY.out.below (Nat.le_refl _) HR.out.2.2) h2
        obtain ⟨y, hy⟩ : ∃ y, y = ys[k]?.getD 0 := ⟨_, rfl⟩
        rw [← hy] at hcy
        obtain ⟨y0, y1⟩ : 0 ≤ y ∧ y < 10 := by rw [hy]; exact RY.out.good.get (by decide) k
        have HI : Hid (SInv xs ys (a + b) (k + 1) ((cc + x + y) / 10) (zs ++ [(cc + x + y) % 10])) := HR.out.1.next RX.out RY.out (by rw [← hx, ← hy]; omega) (Or.inl h1)
        have HK : Hid (k + 1 ≤ 1000) := sinv_short HI.out HF.out
        clear hx hy
        go_wp2_with (at_builtin; go_must (refine wpList_append_own _ rfl _ _ 56 rfl w.heap.size 3 i0 (.int .i64 0) 1 8 Tryz.underlying56 hi hz0 hz1 hz2 rfl (by decide) _ _ _ rfl (HR.out.2.1.alloc _) ⟨wr.heap.size, 0, none⟩ 1 1 [.int .i64 ((cc + x + y) % 10)] rfl rfl ?_ ?_ ?_ ?_ ?_ ?_); rotate_right; intro v2 w2 hown2 hgrow2 _)
        · have HS : Hid (SInv xs ys (a + b) (k + 1) ((cc + x + y) / 10) (zs ++ [(cc + x + y) % 10]) ∧ w2.ownsRow w.heap.size 3 1 v2 (zs ++ [(cc + x + y) % 10]).length ((zs ++ [(cc + x + y) % 10]).map (Value.int .i64)) ∧ Below w.heap.size w w2) := by
            refine ⟨HI.out, ?_, (HR.out.2.2.alloc hsz2 _).grown hgrow2 (by simp; omega) (fun j hj => (HR.out.2.1.lt j hj).1)⟩
            rw [List.length_append, List.map_append]; exact hown2
          have hk2 := HK.out
          go_roundw
          case rel => exact ⟨k + 1, (cc + x + y) / 10, _, by go_num, rfl, hk2, by omega, by omega, HS⟩
          case measure => simp [intOf2]; omega
        · exact cell_one_new _ _ _
        · simp [Value.oneCell']
        · have := HL.out; unfold maxLen; omega
        · have := HL.out; omega
        · simp; omega
      · obtain ⟨bx, ox, rfl, hcx⟩ := ints_at (HX.out.below (Nat.le_refl _) HR.out.2.2) h1
        obtain ⟨x, hx⟩ : ∃ x, x = xs[k]?.getD 0 := ⟨_, rfl⟩
        rw [← hx] at hcx
        obtain ⟨x0, x1⟩ : 0 ≤ x ∧ x < 10 := by rw [hx]; exact RX.out.good.get (by decide) k
        have hy : (0 : Int) = ys[k]?.getD 0 := by rw [List.getElem?_eq_none (by omega)]; rfl
        have HI : Hid (SInv xs ys (a + b) (k + 1) ((cc + x) / 10) (zs ++ [(cc + x) % 10])) := HR.out.1.next RX.out RY.out (by rw [← hx, ← hy]; omega) (Or.inl h1)
        have HK : Hid (k + 1 ≤ 1000) := sinv_short HI.out HF.out
        clear hx hy
        go_wp2_with (at_builtin; go_must (refine wpList_append_own _ rfl _ _ 56 rfl w.heap.size 3 i0 (.int .i64 0) 1 8 Tryz.underlying56 hi hz0 hz1 hz2 rfl (by decide) _ _ _ rfl (HR.out.2.1.alloc _) ⟨wr.heap.size, 0, none⟩ 1 1 [.int .i64 ((cc + x) % 10)] rfl rfl ?_ ?_ ?_ ?_ ?_ ?_); rotate_right; intro v2 w2 hown2 hgrow2 _)
        · have HS : Hid (SInv xs ys (a + b) (k + 1) ((cc + x) / 10) (zs ++ [(cc + x) % 10]) ∧ w2.ownsRow w.heap.size 3 1 v2 (zs ++ [(cc + x) % 10]).length ((zs ++ [(cc + x) % 10]).map (Value.int .i64)) ∧ Below w.heap.size w w2) := by
            refine ⟨HI.out, ?_, (HR.out.2.2.alloc hsz2 _).grown hgrow2 (by simp; omega) (fun j hj => (HR.out.2.1.lt j hj).1)⟩
            rw [List.length_append, List.map_append]; exact hown2
          have hk2 := HK.out
          go_roundw
          case rel => exact ⟨k + 1, (cc + x) / 10, _, by go_num, rfl, hk2, by omega, by omega, HS⟩
          case measure => simp [intOf2]; omega
        · exact cell_one_new _ _ _
        · simp [Value.oneCell']
        · have := HL.out; unfold maxLen; omega
        · have := HL.out; omega
        · simp; omega
    · by_cases h2 : k < ys.length
      · have hx : (0 : Int) = xs[k]?.getD 0 := by rw [List.getElem?_eq_none (by omega)]; rfl
        obtain ⟨by', oy, rfl, hcy⟩ := ints_at (HY.out.below (Nat.le_refl _) HR.out.2.2) h2
        obtain ⟨y, hy⟩ : ∃ y, y = ys[k]?.getD 0 := ⟨_, rfl⟩
        rw [← hy] at hcy
        obtain ⟨y0, y1⟩ : 0 ≤ y ∧ y < 10 := by rw [hy]; exact RY.out.good.get (by decide) k
        have HI : Hid (SInv xs ys (a + b) (k + 1) ((cc + y) / 10) (zs ++ [(cc + y) % 10])) := HR.out.1.next RX.out RY.out (by rw [← hx, ← hy]; omega) (Or.inr (Or.inl h2))
        have HK : Hid (k + 1 ≤ 1000) := sinv_short HI.out HF.out
        clear hx hy
        go_wp2_with (at_builtin; go_must (refine wpList_append_own _ rfl _ _ 56 rfl w.heap.size 3 i0 (.int .i64 0) 1 8 Tryz.underlying56 hi hz0 hz1 hz2 rfl (by decide) _ _ _ rfl (HR.out.2.1.alloc _) ⟨wr.heap.size, 0, none⟩ 1 1 [.int .i64 ((cc + y) % 10)] rfl rfl ?_ ?_ ?_ ?_ ?_ ?_); rotate_right; intro v2 w2 hown2 hgrow2 _)
        · have HS : Hid (SInv xs ys (a + b) (k + 1) ((cc + y) / 10) (zs ++ [(cc + y) % 10]) ∧ w2.ownsRow w.heap.size 3 1 v2 (zs ++ [(cc + y) % 10]).length ((zs ++ [(cc + y) % 10]).map (Value.int .i64)) ∧ Below w.heap.size w w2) := by
            refine ⟨HI.out, ?_, (HR.out.2.2.alloc hsz2 _).grown hgrow2 (by simp; omega) (fun j hj => (HR.out.2.1.lt j hj).1)⟩
            rw [List.length_append, List.map_append]; exact hown2
          have hk2 := HK.out
          go_roundw
          case rel => exact ⟨k + 1, (cc + y) / 10, _, by go_num, rfl, hk2, by omega, by omega, HS⟩
          case measure => simp [intOf2]; omega
        · exact cell_one_new _ _ _
        · simp [Value.oneCell']
        · have := HL.out; unfold maxLen; omega
        · have := HL.out; omega
        · simp; omega
      · by_cases h3 : 0 < cc
        · have hx : (0 : Int) = xs[k]?.getD 0 := by rw [List.getElem?_eq_none (by omega)]; rfl
          have hy : (0 : Int) = ys[k]?.getD 0 := by rw [List.getElem?_eq_none (by omega)]; rfl
          have HI : Hid (SInv xs ys (a + b) (k + 1) ((cc) / 10) (zs ++ [(cc) % 10])) := HR.out.1.next RX.out RY.out (by rw [← hx, ← hy]; omega) (Or.inr (Or.inr h3))
          have HK : Hid (k + 1 ≤ 1000) := sinv_short HI.out HF.out
          clear hx hy
          go_wp2_with (at_builtin; go_must (refine wpList_append_own _ rfl _ _ 56 rfl w.heap.size 3 i0 (.int .i64 0) 1 8 Tryz.underlying56 hi hz0 hz1 hz2 rfl (by decide) _ _ _ rfl (HR.out.2.1.alloc _) ⟨wr.heap.size, 0, none⟩ 1 1 [.int .i64 ((cc) % 10)] rfl rfl ?_ ?_ ?_ ?_ ?_ ?_); rotate_right; intro v2 w2 hown2 hgrow2 _)
          · have HS : Hid (SInv xs ys (a + b) (k + 1) ((cc) / 10) (zs ++ [(cc) % 10]) ∧ w2.ownsRow w.heap.size 3 1 v2 (zs ++ [(cc) % 10]).length ((zs ++ [(cc) % 10]).map (Value.int .i64)) ∧ Below w.heap.size w w2) := by
              refine ⟨HI.out, ?_, (HR.out.2.2.alloc hsz2 _).grown hgrow2 (by simp; omega) (fun j hj => (HR.out.2.1.lt j hj).1)⟩
              rw [List.length_append, List.map_append]; exact hown2
            have hk2 := HK.out
            go_roundw
            case rel => exact ⟨k + 1, (cc) / 10, _, by go_num, rfl, hk2, by omega, by omega, HS⟩
            case measure => simp [intOf2]; omega
          · exact cell_one_new _ _ _
          · simp [Value.oneCell']
          · have := HL.out; unfold maxLen; omega
          · have := HL.out; omega
          · simp; omega
        · have HDn := HR.out.1.done RX.out RY.out h1 h2 h3
          go_wp2
          go_ret
          exact ⟨_, rfl, ⟨zs, ownsRow_ints HR.out.2.1, HDn⟩, away_row HR.out.2.1, HR.out.2.2⟩

end Go.Proofs.Tryz

namespace Go.Proofs.Tryz
open Go.RowKit Go.Shelf Go.Proofs.Dt

set_option maxHeartbeats 4000000 in
set_option maxRecDepth 100000 in
theorem rminus_any (v u : Value) (a b : Nat) (w : World) (ha : DNum w v a) (hb : DNum w u b) (hf : DLim 1000 a) (hba : b ≤ a) : Calls Tryz.prog 95 #[v, u] w (DPost w (a - b)) := by
  obtain ⟨xs, ix, rx⟩ := ha
  obtain ⟨ys, iy, ry⟩ := hb
  have hlx := hf.len rx
  have hly := (hf.le hba).len ry
  obtain ⟨av, cv, rfl⟩ := ix.shape
  obtain ⟨au, cu, rfl⟩ := iy.shape
  have HX := Lib.hid ix
  have HY := Lib.hid iy
  have RX := Lib.hid rx
  have RY := Lib.hid ry
  have HBA := Lib.hid hba
  clear ix iy rx ry hf hba
  obtain ⟨i0, hi, hz0, hz1, hz2⟩ := info_parts info3
  go_enter Tryz.func95, Tryz.ntmps95
  go_wp2_with fail
  go_loopw [5, 6, 7] (fun o c i wr => ∃ (k : Nat) (cc : Int) (zs : List Int), i = .int .i64 (k : Int) ∧ c = .int .i64 cc ∧ k ≤ xs.length ∧ 0 ≤ cc ∧ cc ≤ 1 ∧ Hid (MInv xs ys k cc zs ∧ wr.ownsRow w.heap.size 3 1 o zs.length (zs.map (Value.int .i64)) ∧ Below w.heap.size w wr)) (fun _ _ i _ => 1001 - (intOf2 i).toNat)
  case atStart => exact ⟨0, 0, [], rfl, rfl, by omega, by decide, by decide, MInv.start _ _, ⟨rfl, .inl ⟨rfl, rfl⟩⟩, Below.refl _ _⟩
  case round =>
    obtain ⟨k, cc, zs, rfl, rfl, hk, hc0, hc1, HR⟩ := hrel
    have hsz2 := HR.out.2.2.size
    have HL : Hid (zs.length ≤ 1000) := by show _ ≤ _; rw [HR.out.1.len]; omega
    by_cases h1 : k < xs.length
    · obtain ⟨bx, ox, rfl, hcx⟩ := ints_at (HX.out.below (Nat.le_refl _) HR.out.2.2) h1
      obtain ⟨x, hx⟩ : ∃ x, x = xs[k]?.getD 0 := ⟨_, rfl⟩
      rw [← hx] at hcx
      obtain ⟨x0, x1⟩ : 0 ≤ x ∧ x < 10 := by rw [hx]; exact RX.out.good.get (by decide) k
      by_cases h2 : k < ys.length
      · obtain ⟨by', oy, rfl, hcy⟩ := ints_at (HY.out.below (Nat.le_refl _) HR.out.2.2) h2
        obtain ⟨y, hy⟩ : ∃ y, y = ys[k]?.getD 0 := ⟨_, rfl⟩
        rw [← hy] at hcy
        obtain ⟨y0, y1⟩ : 0 ≤ y ∧ y < 10 := by rw [hy]; exact RY.out.good.get (by decide) k
        by_cases hn : x - cc - y < 0
        · have HI : Hid (MInv xs ys (k + 1) 1 (zs ++ [x - cc - y + 10])) := HR.out.1.next RX.out RY.out (n := x - cc - y) (by first | (rw [← hx, ← hy]; done) | (rw [← hx, ← hy]; omega)) (Or.inl ⟨hn, rfl, rfl⟩)
          clear hx hy
          go_wp2_with (at_builtin; go_must (refine wpList_append_own _ rfl _ _ 56 rfl w.heap.size 3 i0 (.int .i64 0) 1 8 Tryz.underlying56 hi hz0 hz1 hz2 rfl (by decide) _ _ _ rfl (HR.out.2.1.alloc _) ⟨wr.heap.size, 0, none⟩ 1 1 [.int .i64 (x - cc - y + 10)] rfl rfl ?_ ?_ ?_ ?_ ?_ ?_); rotate_right; intro v2 w2 hown2 hgrow2 _)
          · have HS : Hid (MInv xs ys (k + 1) 1 (zs ++ [x - cc - y + 10]) ∧ w2.ownsRow w.heap.size 3 1 v2 (zs ++ [x - cc - y + 10]).length ((zs ++ [x - cc - y + 10]).map (Value.int .i64)) ∧ Below w.heap.size w w2) := by
              refine ⟨HI.out, ?_, (HR.out.2.2.alloc hsz2 _).grown hgrow2 (by first | (simp; done) | (simp; omega)) (fun j hj => (HR.out.2.1.lt j hj).1)⟩
              rw [List.length_append, List.map_append]; exact hown2
            go_roundw
            case rel => exact ⟨k + 1, 1, _, by go_num, rfl, by omega, by omega, by omega, HS⟩
            case measure => simp [intOf2]; omega
          all_goals (first | exact cell_one_new _ _ _ | (have := HL.out; omega) | (have := HL.out; unfold maxLen; omega) | (simp [Value.oneCell']; done) | (simp; omega))
        · have HI : Hid (MInv xs ys (k + 1) 0 (zs ++ [x - cc - y])) := HR.out.1.next RX.out RY.out (n := x - cc - y) (by first | (rw [← hx, ← hy]; done) | (rw [← hx, ← hy]; omega)) (Or.inr ⟨by omega, rfl, rfl⟩)
          clear hx hy
          go_wp2_with (at_builtin; go_must (refine wpList_append_own _ rfl _ _ 56 rfl w.heap.size 3 i0 (.int .i64 0) 1 8 Tryz.underlying56 hi hz0 hz1 hz2 rfl (by decide) _ _ _ rfl (HR.out.2.1.alloc _) ⟨wr.heap.size, 0, none⟩ 1 1 [.int .i64 (x - cc - y)] rfl rfl ?_ ?_ ?_ ?_ ?_ ?_); rotate_right; intro v2 w2 hown2 hgrow2 _)
          · have HS : Hid (MInv xs ys (k + 1) 0 (zs ++ [x - cc - y]) ∧ w2.ownsRow w.heap.size 3 1 v2 (zs ++ [x - cc - y]).length ((zs ++ [x - cc - y]).map (Value.int .i64)) ∧ Below w.heap.size w w2) := by
              refine ⟨HI.out, ?_, (HR.out.2.2.alloc hsz2 _).grown hgrow2 (by first | (simp; done) | (simp; omega)) (fun j hj => (HR.out.2.1.lt j hj).1)⟩
              rw [List.length_append, List.map_append]; exact hown2
            go_roundw
            case rel => exact ⟨k + 1, 0, _, by go_num, rfl, by omega, by omega, by omega, HS⟩
            case measure => simp [intOf2]; omega
          all_goals (first | exact cell_one_new _ _ _ | (have := HL.out; omega) | (have := HL.out; unfold maxLen; omega) | (simp [Value.oneCell']; done) | (simp; omega))
      · have hy : (0 : Int) = ys[k]?.getD 0 := by rw [List.getElem?_eq_none (by omega)]; rfl
        by_cases hn : x - cc < 0
        · have HI : Hid (MInv xs ys (k + 1) 1 (zs ++ [x - cc + 10])) := HR.out.1.next RX.out RY.out (n := x - cc) (by first | (rw [← hx, ← hy]; done) | (rw [← hx, ← hy]; omega)) (Or.inl ⟨hn, rfl, rfl⟩)
          clear hx hy
          go_wp2_with (at_builtin; go_must (refine wpList_append_own _ rfl _ _ 56 rfl w.heap.size 3 i0 (.int .i64 0) 1 8 Tryz.underlying56 hi hz0 hz1 hz2 rfl (by decide) _ _ _ rfl (HR.out.2.1.alloc _) ⟨wr.heap.size, 0, none⟩ 1 1 [.int .i64 (x - cc + 10)] rfl rfl ?_ ?_ ?_ ?_ ?_ ?_); rotate_right; intro v2 w2 hown2 hgrow2 _)
          · have HS : Hid (MInv xs ys (k + 1) 1 (zs ++ [x - cc + 10]) ∧ w2.ownsRow w.heap.size 3 1 v2 (zs ++ [x - cc + 10]).length ((zs ++ [x - cc + 10]).map (Value.int .i64)) ∧ Below w.heap.size w w2) := by
              refine ⟨HI.out, ?_, (HR.out.2.2.alloc hsz2 _).grown hgrow2 (by first | (simp; done) | (simp; omega)) (fun j hj => (HR.out.2.1.lt j hj).1)⟩
              rw [List.length_append, List.map_append]; exact hown2
            go_roundw
            case rel => exact ⟨k + 1, 1, _, by go_num, rfl, by omega, by omega, by omega, HS⟩
            case measure => simp [intOf2]; omega
          all_goals (first | exact cell_one_new _ _ _ | (have := HL.out; omega) | (have := HL.out; unfold maxLen; omega) | (simp [Value.oneCell']; done) | (simp; omega))
        · have HI : Hid (MInv xs ys (k + 1) 0 (zs ++ [x - cc])) := HR.out.1.next RX.out RY.out (n := x - cc) (by first | (rw [← hx, ← hy]; done) | (rw [← hx, ← hy]; omega)) (Or.inr ⟨by omega, rfl, rfl⟩)
          clear hx hy
          go_wp2_with (at_builtin; go_must (refine wpList_append_own _ rfl _ _ 56 rfl w.heap.size 3 i0 (.int .i64 0) 1 8 Tryz.underlying56 hi hz0 hz1 hz2 rfl (by decide) _ _ _ rfl (HR.out.2.1.alloc _) ⟨wr.heap.size, 0, none⟩ 1 1 [.int .i64 (x - cc)] rfl rfl ?_ ?_ ?_ ?_ ?_ ?_); rotate_right; intro v2 w2 hown2 hgrow2 _)
          · have HS : Hid (MInv xs ys (k + 1) 0 (zs ++ [x - cc]) ∧ w2.ownsRow w.heap.size 3 1 v2 (zs ++ [x - cc]).length ((zs ++ [x - cc]).map (Value.int .i64)) ∧ Below w.heap.size w w2) := by
              refine ⟨HI.out, ?_, (HR.out.2.2.alloc hsz2 _).grown hgrow2 (by first | (simp; done) | (simp; omega)) (fun j hj => (HR.out.2.1.lt j hj).1)⟩
              rw [List.length_append, List.map_append]; exact hown2
            go_roundw
            case rel => exact ⟨k + 1, 0, _, by go_num, rfl, by omega, by omega, by omega, HS⟩
            case measure => simp [intOf2]; omega
          all_goals (first | exact cell_one_new _ _ _ | (have := HL.out; omega) | (have := HL.out; unfold maxLen; omega) | (simp [Value.oneCell']; done) | (simp; omega))
    · obtain rfl : k = xs.length := by omega
      have HV := Lib.hid (HR.out.1.done RX.out RY.out HBA.out rfl)
      have HZ := Lib.hid HR.out.1.dgs
      obtain ⟨ao, co, rfl⟩ := (ownsRow_ints HR.out.2.1).shape
      have HI : Hid (Ints wr (.slice ao zs.length co) zs) := ownsRow_ints HR.out.2.1
      have HA : Hid (∀ b, b < w.heap.size → Away b (.slice ao zs.length co)) := away_row HR.out.2.1
      have HBr : Hid (Below w.heap.size w wr) := HR.out.2.2
      clear HR hk
      go_wp2_with fail
      refine (rtrim_any _ (by have := HL.out; omega) HI.out).mono ?_
      rintro e w2 ⟨v2, k, rfl, hk, hI, haw, rfl⟩
      go_wp2
      go_ret
      exact ⟨_, rfl, ⟨_, hI, rep_trim HZ.out HV.out hk.1 hk.2.1 hk.2.2⟩, fun b hb => haw b (HA.out b hb), HBr.out⟩

end Go.Proofs.Tryz

namespace Go.Proofs.Tryz
open Go.RowKit Go.Shelf Go.Proofs.Dt

set_option maxHeartbeats 4000000 in
set_option maxRecDepth 100000 in
theorem rorder_any (v u : Value) (a b : Nat) (w : World) (ha : DNum w v a) (hb : DNum w u b) (hf : DLim 1000 a) : Calls Tryz.prog 96 #[v, u] w fun e w' => e = .returned (.int .i64 (cmpI a b)) ∧ Below w.heap.size w w' := by
  obtain ⟨xs, ix, rx⟩ := ha
  obtain ⟨ys, iy, ry⟩ := hb
  have hlx := hf.len rx
  obtain ⟨av, cv, rfl⟩ := ix.shape
  obtain ⟨au, cu, rfl⟩ := iy.shape
  rcases Nat.lt_trichotomy xs.length ys.length with hl | hl | hl
  · have HE : Hid (cmpI a b = -1) := by
      have := lt_of_length (by decide) rx ry hl
      show _ = _; unfold cmpI; rw [if_pos (by omega)]
    have hne : ((xs.length : Int) != (ys.length : Int)) = true := bne_iff_ne.2 (by omega)
    have hli : (xs.length : Int) < (ys.length : Int) := by omega
    rw [HE.out]
    clear ix iy rx ry hf hl
    go_enter Tryz.func96, Tryz.ntmps96
    go_wp2
    go_ret
    exact ⟨rfl, Below.refl _ _⟩
  · have HX := Lib.hid ix
    have HY := Lib.hid iy
    have HL := Lib.hid hl
    have hle : (ys.length : Int) = (xs.length : Int) := by omega
    have RX := Lib.hid rx
    have RY := Lib.hid ry
    clear ix iy rx ry hf hl
    have mixed : Tryz.prog.follows .mixedOrders = true := by kernel_rfl
    go_enter Tryz.func96, Tryz.ntmps96
    go_wp2_with fail
    go_loopw [5] (fun i wr => ∃ f : Nat, i = .int .i64 ((f : Int) - 1) ∧ f ≤ xs.length ∧ Hid (xs.drop f = ys.drop f ∧ Below w.heap.size w wr)) (fun i _ => (intOf2 i + 1).toNat)
    case atStart => exact ⟨xs.length, rfl, Nat.le_refl _, by rw [List.drop_length, HL.out, List.drop_length], Below.refl _ _⟩
    case round =>
      obtain ⟨f, rfl, hf, HR⟩ := hrel
      by_cases hf0 : 0 < f
      · have h1 : f - 1 < xs.length := by omega
        have h2 : f - 1 < ys.length := by have := HL.out; omega
        obtain ⟨bx, ox, rfl, hcx⟩ := ints_at (HX.out.below (Nat.le_refl _) HR.out.2) h1
        obtain ⟨by', oy, rfl, hcy⟩ := ints_at (HY.out.below (Nat.le_refl _) HR.out.2) h2
        obtain ⟨x, hx⟩ : ∃ x, x = xs[f - 1]?.getD 0 := ⟨_, rfl⟩
        obtain ⟨y, hy⟩ : ∃ y, y = ys[f - 1]?.getD 0 := ⟨_, rfl⟩
        rw [← hx] at hcx
        rw [← hy] at hcy
        have e1 : ((f : Int) - 1).toNat = f - 1 := by omega
        have hlt2 : (f : Int) - 1 < (xs.length : Int) := by omega
        have hge2 : (0 : Int) ≤ (f : Int) - 1 := by omega
        have HXY : Hid (x = xs[f - 1]?.getD 0 ∧ y = ys[f - 1]?.getD 0) := ⟨hx, hy⟩
        have HB1 : Hid (Below w.heap.size w wr.drew) := HR.out.2.trans ⟨rfl, rfl, rfl, Nat.le_refl _, fun _ _ => rfl⟩
        have HD : Hid (xs.drop f = ys.drop f) := HR.out.1
        have HE1 : Hid (f - 1 + 1 = f) := (by omega : f - 1 + 1 = f)
        clear hx hy HR
        by_cases hxy : x = y
        · have hb : (x != y) = false := by simpa using hxy
          have HS : Hid (xs.drop (f - 1) = ys.drop (f - 1)) := by
            show _ = _
            rw [drop_cons h1, drop_cons h2, HE1.out, HD.out, ← HXY.out.1, ← HXY.out.2, hxy]
          clear hxy
          have hcx' : wr.drew.cell? ⟨bx, ox + (f - 1), none⟩ = some (.int .i64 x) := hcx
          have hcy' : wr.drew.cell? ⟨by', oy + (f - 1), none⟩ = some (.int .i64 y) := hcy
          go_wp2_with fail
          go_region_held3 (fun w' => w'.cell? ⟨bx, ox + (f - 1), none⟩ = some (.int .i64 x) ∧ w'.cell? ⟨by', oy + (f - 1), none⟩ = some (.int .i64 y))
            (first | exact ⟨hcx', hcy'⟩)
            (first | fail)
          go_wp2_with fail
          go_roundw
          case rel => exact ⟨f - 1, by congr 1; omega, by omega, HS.out, HB1.out⟩
          case measure => simp [intOf2]; omega
        · have hb : (x != y) = true := bne_iff_ne.2 hxy
          have hcx' : wr.drew.cell? ⟨bx, ox + (f - 1), none⟩ = some (.int .i64 x) := hcx
          have hcy' : wr.drew.cell? ⟨by', oy + (f - 1), none⟩ = some (.int .i64 y) := hcy
          go_wp2_with fail
          go_region_held3 (fun w' => w'.cell? ⟨bx, ox + (f - 1), none⟩ = some (.int .i64 x) ∧ w'.cell? ⟨by', oy + (f - 1), none⟩ = some (.int .i64 y))
            (first | exact ⟨hcx', hcy'⟩)
            (first | fail)
          go_wp2_with fail
          have hcx2 : wr.drew.drew.cell? ⟨bx, ox + (f - 1), none⟩ = some (.int .i64 x) := hcx
          have hcy2 : wr.drew.drew.cell? ⟨by', oy + (f - 1), none⟩ = some (.int .i64 y) := hcy
          have HB2 : Hid (Below w.heap.size w wr.drew.drew) := HB1.out.trans ⟨rfl, rfl, rfl, Nat.le_refl _, fun _ _ => rfl⟩
          clear hb
          by_cases hlt : x < y
          · have HE : Hid (cmpI a b = -1) := by
              have := lt_of_differ (by decide) RX.out RY.out HL.out h1 (by rw [HE1.out]; exact HD.out) (by rw [← HXY.out.1, ← HXY.out.2]; exact hlt)
              show _ = _; unfold cmpI; rw [if_pos (by omega)]
            clear hxy
            go_region_held3 (fun w' => w'.cell? ⟨bx, ox + (f - 1), none⟩ = some (.int .i64 x) ∧ w'.cell? ⟨by', oy + (f - 1), none⟩ = some (.int .i64 y))
              (first | exact ⟨hcx2, hcy2⟩)
              (first | fail)
            go_wp2
            go_ret
            exact ⟨by rw [HE.out]; rfl, HB2.out⟩
          · have HE : Hid (cmpI a b = 1) := by
              have := lt_of_differ (by decide) RY.out RX.out HL.out.symm h2 (by rw [HE1.out]; exact HD.out.symm) (by rw [← HXY.out.1, ← HXY.out.2]; omega)
              show _ = _; unfold cmpI; rw [if_neg (by omega), if_pos (by omega)]
            clear hxy
            go_region_held3 (fun w' => w'.cell? ⟨bx, ox + (f - 1), none⟩ = some (.int .i64 x) ∧ w'.cell? ⟨by', oy + (f - 1), none⟩ = some (.int .i64 y))
              (first | exact ⟨hcx2, hcy2⟩)
              (first | fail)
            go_wp2
            go_ret
            exact ⟨by rw [HE.out]; rfl, HB2.out⟩
      · obtain rfl : f = 0 := by omega
        have HE : Hid (cmpI a b = 0) := by
          have h := HR.out.1
          rw [List.drop_zero, List.drop_zero] at h
          have : (a : Int) = b := by rw [← RX.out.val, ← RY.out.val, h]
          show _ = _; rw [this]; simp [cmpI]
        have HB := Lib.hid HR.out.2
        go_wp2
        go_ret
        exact ⟨by rw [HE.out]; rfl, HB.out⟩
  · have HE : Hid (cmpI a b = 1) := by
      have := lt_of_length (by decide) ry rx hl
      show _ = _; unfold cmpI; rw [if_neg (by omega), if_pos (by omega)]
    have hne : ((xs.length : Int) != (ys.length : Int)) = true := bne_iff_ne.2 (by omega)
    have hli : ¬ (xs.length : Int) < (ys.length : Int) := by omega
    rw [HE.out]
    clear ix iy rx ry hf hl
    go_enter Tryz.func96, Tryz.ntmps96
    go_wp2
    go_ret
    exact ⟨rfl, Below.refl _ _⟩

end Go.Proofs.Tryz
