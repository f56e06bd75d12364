/- The reference's 'trim' and 'text': what they return.
The reference's 'text': what it returns. -/
import Derived.Test.YtjjmabokoendbaaGreatDoorPA
import Derived.Test.YtjjmabokoendbaaGreatDoorIA
import Derived.Laws.IdiomStrings
namespace Go.Proofs.Tryz
open Go.RowKit Go.Proofs.Dt

set_option maxHeartbeats 800000 in
theorem rtrim_some (b off cap : Nat) (xs : List Int) (w : World) (hl : xs.length ≤ 9223372036854775807) (hcap : xs.length ≤ cap) (hb : b < w.heap.size) (hc : ∀ j, j < xs.length → w.cell? ⟨b, off + j, none⟩ = some (.int .i64 (xs[j]?.getD 0))) :
    Calls Tryz.prog 91 #[.slice (some ⟨b, off, none⟩) xs.length cap] w (TrimPost (.slice (some ⟨b, off, none⟩) xs.length cap) w xs) := by
  go_enter Tryz.func91, Tryz.ntmps91
  go_wp2
  go_loop [0] (fun s => ∃ k, k ≤ xs.length ∧ s = .slice (some ⟨b, off, none⟩) k cap ∧ Hid (∀ j, k ≤ j → j < xs.length → xs[j]?.getD 0 = 0)) (fun s => lenOf s)
  case atStart => exact ⟨xs.length, Nat.le_refl _, rfl, fun j h1 h2 => by omega⟩
  case round =>
    obtain ⟨k, hk, rfl, hz⟩ := hrel
    by_cases h0 : 0 < k
    · have hcell := hc (k - 1) (by omega)
      by_cases hx : xs[k - 1]?.getD 0 = 0
      · rw [hx] at hcell
        have HX := Lib.hid hx
        have HC := Lib.hid hc
        clear hx hc
        have e1 : ((k : Int) - 1).toNat = k - 1 := by omega
        go_wp2
        go_round
        case rel =>
          refine ⟨k - 1, by omega, ?_, fun j h1 h2 => ?_⟩
          · rfl
          · by_cases e : j = k - 1
            · rw [e]; exact HX.out
            · exact hz.out j (by omega) h2
        case measure => simp [lenOf]; omega
      · have hx2 : (xs[k - 1]?.getD 0 == 0) = false := by simpa using hx
        have HX := Lib.hid hx
        have HC := Lib.hid hc
        clear hx hc
        have e1 : ((k : Int) - 1).toNat = k - 1 := by omega
        go_wp2
        go_ret
        exact ⟨_, k, rfl, ⟨hk, hz.out, .inr HX.out⟩, ints_take hk hcap hb HC.out, away_same _ _ _ _ _, rfl⟩
    · obtain rfl : k = 0 := by omega
      have HC := Lib.hid hc
      clear hc
      go_wp2
      go_ret
      exact ⟨_, 0, rfl, ⟨hk, hz.out, .inl rfl⟩, ints_take hk hcap hb HC.out, away_same _ _ _ _ _, rfl⟩

theorem rtrim_nil (w : World) : Calls Tryz.prog 91 #[.slice none 0 0] w (TrimPost (.slice none 0 0) w []) := by
  go_enter Tryz.func91, Tryz.ntmps91
  go_wp2
  refine wp_loop_rounds 1 ?_
  rw [rounds_succ]
  go_wp2
  go_ret
  exact ⟨_, 0, rfl, ⟨Nat.le_refl _, fun j h1 h2 => by simp at h2, .inl rfl⟩, Ints.nil w, fun _ h => h, rfl⟩

theorem rtrim_any {v : Value} {xs : List Int} (w : World) (hl : xs.length ≤ 9223372036854775807) (h : Ints w v xs) : Calls Tryz.prog 91 #[v] w (TrimPost v w xs) := by
  rcases h with ⟨rfl, rfl⟩ | ⟨b, off, cap, rfl, hcap, hb, hc⟩
  · exact rtrim_nil w
  · exact rtrim_some b off cap xs w hl hcap hb hc


theorem info5 : (Tryz.prog.info? 5).map (fun i => (i.zero, i.size, i.bytes)) = some (some (.int .u8 0), 1, 1) := by kernel_rfl

/-- The cells of a row of bytes. -/
def u8s (l : List UInt8) : List Value := l.map fun c => .int .u8 c.toNat
theorem u8s_length (l : List UInt8) : (u8s l).length = l.length := by simp [u8s]
theorem u8s_append (l m : List UInt8) : u8s (l ++ m) = u8s l ++ u8s m := by simp [u8s]

theorem ownsRow_string {W : World} {B : Nat} {v : Value} {l : List UInt8} (h : W.ownsRow B 5 1 v l.length (u8s l)) : (convert 43 9 v).run Tryz.prog W = .ok (.string ⟨l.toArray⟩) W := by
  obtain ⟨_, ⟨rfl, hn⟩ | ⟨g, cap, cur, rfl, hb, hg, hc, _, hs, hx⟩⟩ := h
  · obtain rfl : l = [] := List.length_eq_zero_iff.1 hn
    rw [run_convert_bytes_string W 43 9 5 none 0 0 Tryz.underlying43 Tryz.underlying5 Tryz.underlying9]; rfl
  · refine run_convert_bytes_back (P := Tryz.prog) W 43 9 5 ⟨g, 0, none⟩ cap l Tryz.underlying43 Tryz.underlying5 Tryz.underlying9 (fun j hj => ?_)
    have h1 : (u8s l)[j]? = some (.int .u8 (l[j]).toNat) := by simp [u8s, List.getElem?_eq_getElem hj]
    rw [← hx, Nat.mul_one, List.getElem?_take, if_pos hj, Array.getElem?_toList] at h1
    rw [Addr.add_lit, Nat.zero_add]
    simp [World.cell?, hg, h1]

end Go.Proofs.Tryz

namespace Go.Proofs.Tryz
open Go.RowKit Go.Proofs.Dt

theorem own_next {W : World} {B : Nat} {v : Value} {l : List UInt8} {x : Int} {ch : UInt8} (h : W.ownsRow B 5 1 v (l.length + 1) (u8s l ++ [.int .u8 x])) (hx : x = (ch.toNat : Int)) : W.ownsRow B 5 1 v (l ++ [ch]).length (u8s (l ++ [ch])) := by
  rw [u8s_append, List.length_append, show u8s [ch] = [.int .u8 x] by rw [hx]; rfl]; exact h

def intOf2 : Value → Int | .int _ n => n | _ => 0

set_option maxHeartbeats 4000000 in
set_option maxRecDepth 100000 in
theorem rtext_some (neg : Bool) (b off cap : Nat) (xs : List Int) (w : World) (h0 : 0 < xs.length) (hl : xs.length ≤ 1000) (hd : Dgs 10 xs) (hlt : b < w.heap.size)
    (hc : ∀ j, j < xs.length → w.cell? ⟨b, off + j, none⟩ = some (.int .i64 (xs[j]?.getD 0))) :
    Calls Tryz.prog 60 #[.bool neg, .slice (some ⟨b, off, none⟩) xs.length cap] w fun e w' => e = .returned (.tuple #[.string ⟨(rtextS neg xs).1.toArray⟩, .bool (rtextS neg xs).2]) ∧ Below w.heap.size w w' := by
  obtain ⟨i0, hi, hz0, hz1, hz2⟩ := info_parts info5
  have HE : Hid (rtextS neg xs = ((if neg then [45] else []) ++ digs (xs.drop 0), decide (xs.length ≤ 200))) := by
    have : xs ≠ [] := fun e => by rw [e] at h0; simp at h0
    exact rtextS_ne neg this
  have HD := Lib.hid hd
  have HC := Lib.hid hc
  clear hd hc
  have HP : Hid ((⟨(rtextS neg xs).1.toArray⟩ : ByteArray) = ⟨((if neg then [45] else []) ++ digs (xs.drop 0)).toArray⟩) := by show _ = _; rw [HE.out]
  obtain ⟨q1, hq1⟩ : ∃ q1 : ByteArray, q1 = ⟨(rtextS neg xs).1.toArray⟩ := ⟨_, rfl⟩
  have HQ1 : Hid (q1 = ⟨((if neg then [45] else []) ++ digs (xs.drop 0)).toArray⟩) := by show _ = _; rw [hq1]; exact HP.out
  have HQ2 : Hid ((rtextS neg xs).2 = decide (xs.length ≤ 200)) := by show _ = _; rw [HE.out]
  rw [← hq1]
  clear hq1 HP HE
  have hne : ((xs.length : Int) == 0) = false := by simp; intro e; rw [e] at h0; simp at h0
  go_enter Tryz.func60, Tryz.ntmps60
  cases neg with
  | false =>
    have HS : Hid (w.ownsRow w.heap.size 5 1 (.slice none 0 0) ([] : List UInt8).length (u8s []) ∧ Below w.heap.size w w) := ⟨⟨rfl, .inl ⟨rfl, rfl⟩⟩, Below.refl _ _⟩
    go_wp2_with fail

    go_loopw [6, 7] (fun v i wr => ∃ f : Nat, i = .int .i64 ((f : Int) - 1) ∧ f ≤ xs.length ∧ Hid (wr.ownsRow w.heap.size 5 1 v (([] : List UInt8) ++ digs (xs.drop f)).length (u8s (([] : List UInt8) ++ digs (xs.drop f))) ∧ Below w.heap.size w wr)) (fun v i wr => (intOf2 i + 1).toNat)
    case atStart =>
      refine ⟨xs.length, rfl, Nat.le_refl _, ?_⟩
      rw [List.drop_length, digs_nil, List.append_nil]
      exact HS
    case round =>
      obtain ⟨f, rfl, hfl, HR⟩ := hrel
      by_cases hf : 0 < f
      · obtain ⟨c, hc⟩ : ∃ c, c = xs[f - 1]?.getD 0 := ⟨_, rfl⟩
        have hcell : wr.cell? ⟨b, off + (f - 1), none⟩ = some (.int .i64 c) := by rw [hc]; exact (HR.out.2.cell (p := ⟨b, off + (f - 1), none⟩) hlt).trans (HC.out _ (by omega))
        obtain ⟨c0, c1⟩ : 0 ≤ c ∧ c < 10 := by rw [hc]; exact HD.out.get (by decide) _
        have HX := Lib.hid hc
        clear hc
        have e1 : ((f : Int) - 1).toNat = f - 1 := by omega
        have HU : Hid (48 + c = ((UInt8.ofNat (48 + c.toNat)).toNat : Int)) := by show _ = _; rw [ofNat_dig (by omega)]; omega
        have hsz := HR.out.2.size
        have HL : Hid ((([] : List UInt8) ++ digs (xs.drop f)).length ≤ 1001) := by show _ ≤ _; rw [List.length_append, digs_length, List.length_drop]; simp; omega
        go_wp2_with (at_builtin; go_must (refine wpList_append_own _ rfl _ _ 43 rfl w.heap.size 5 i0 (.int .u8 0) 1 1 Tryz.underlying43 hi hz0 hz1 hz2 rfl (by decide) _ _ _ rfl (HR.out.1.alloc _) ⟨wr.heap.size, 0, none⟩ 1 1 [.int .u8 (48 + c)] rfl rfl ?_ ?_ ?_ ?_ ?_ ?_); rotate_right; intro v2 w2 hown2 hgrow2 _)
        · have hown3 := own_next hown2 HU.out
          have HS2 : Hid (w2.ownsRow w.heap.size 5 1 v2 (([] : List UInt8) ++ digs (xs.drop (f - 1))).length (u8s (([] : List UInt8) ++ digs (xs.drop (f - 1)))) ∧ Below w.heap.size w w2) := by
            refine ⟨?_, (HR.out.2.alloc hsz _).grown hgrow2 (by simp; omega) (fun j hj => (HR.out.1.lt j hj).1)⟩
            rw [digs_drop hf hfl, ← List.append_assoc, ← HX.out]; exact hown3
          go_roundw
          case rel => exact ⟨f - 1, by congr 1; omega, by omega, HS2⟩
          case measure => simp [intOf2]; omega
        · exact cell_one_new _ _ _
        · simp [Value.oneCell']
        · have := HL.out; unfold maxLen; omega
        · have := HL.out; omega
        · simp; omega
      · obtain rfl : f = 0 := by omega
        have hconv := ownsRow_string HR.out.1
        rw [show (⟨(([] : List UInt8) ++ digs (xs.drop 0)).toArray⟩ : ByteArray) = q1 from HQ1.out.symm] at hconv
        go_wp2
        go_ret2
        exact ⟨by rw [HQ2.out, show decide ((xs.length : Int) ≤ 200) = decide (xs.length ≤ 200) from decide_eq_decide.2 (by omega)]; rfl, HR.out.2⟩
  | true =>
    go_wp2_with (at_builtin; go_must (refine wpList_append_own _ rfl _ _ 43 rfl w.heap.size 5 i0 (.int .u8 0) 1 1 Tryz.underlying43 hi hz0 hz1 hz2 rfl (by decide) (.slice none 0 0) 0 [] rfl ⟨rfl, .inl ⟨rfl, rfl⟩⟩ ⟨w.heap.size, 0, none⟩ 1 1 [.int .u8 45] rfl rfl ?_ ?_ ?_ ?_ ?_ ?_); rotate_right; intro v' w1 hown' hgrow _)
    · have HS : Hid (w1.ownsRow w.heap.size 5 1 v' ([45] : List UInt8).length (u8s [45]) ∧ Below w.heap.size w w1) := ⟨hown', ((Below.refl _ w).alloc (Nat.le_refl _) _).grown hgrow (by simp) (fun j hj => by cases hj)⟩
      clear hown' hgrow
      go_wp2_with fail
  
      go_loopw [6, 7] (fun v i wr => ∃ f : Nat, i = .int .i64 ((f : Int) - 1) ∧ f ≤ xs.length ∧ Hid (wr.ownsRow w.heap.size 5 1 v (([45] : List UInt8) ++ digs (xs.drop f)).length (u8s (([45] : List UInt8) ++ digs (xs.drop f))) ∧ Below w.heap.size w wr)) (fun v i wr => (intOf2 i + 1).toNat)
      case atStart =>
        refine ⟨xs.length, rfl, Nat.le_refl _, ?_⟩
        rw [List.drop_length, digs_nil, List.append_nil]
        exact HS
      case round =>
        obtain ⟨f, rfl, hfl, HR⟩ := hrel
        by_cases hf : 0 < f
        · obtain ⟨c, hc⟩ : ∃ c, c = xs[f - 1]?.getD 0 := ⟨_, rfl⟩
          have hcell : wr.cell? ⟨b, off + (f - 1), none⟩ = some (.int .i64 c) := by rw [hc]; exact (HR.out.2.cell (p := ⟨b, off + (f - 1), none⟩) hlt).trans (HC.out _ (by omega))
          obtain ⟨c0, c1⟩ : 0 ≤ c ∧ c < 10 := by rw [hc]; exact HD.out.get (by decide) _
          have HX := Lib.hid hc
          clear hc
          have e1 : ((f : Int) - 1).toNat = f - 1 := by omega
          have HU : Hid (48 + c = ((UInt8.ofNat (48 + c.toNat)).toNat : Int)) := by show _ = _; rw [ofNat_dig (by omega)]; omega
          have hsz := HR.out.2.size
          have HL : Hid ((([45] : List UInt8) ++ digs (xs.drop f)).length ≤ 1001) := by show _ ≤ _; rw [List.length_append, digs_length, List.length_drop]; simp; omega
          go_wp2_with (at_builtin; go_must (refine wpList_append_own _ rfl _ _ 43 rfl w.heap.size 5 i0 (.int .u8 0) 1 1 Tryz.underlying43 hi hz0 hz1 hz2 rfl (by decide) _ _ _ rfl (HR.out.1.alloc _) ⟨wr.heap.size, 0, none⟩ 1 1 [.int .u8 (48 + c)] rfl rfl ?_ ?_ ?_ ?_ ?_ ?_); rotate_right; intro v2 w2 hown2 hgrow2 _)
          · have hown3 := own_next hown2 HU.out
            have HS2 : Hid (w2.ownsRow w.heap.size 5 1 v2 (([45] : List UInt8) ++ digs (xs.drop (f - 1))).length (u8s (([45] : List UInt8) ++ digs (xs.drop (f - 1)))) ∧ Below w.heap.size w w2) := by
              refine ⟨?_, (HR.out.2.alloc hsz _).grown hgrow2 (by simp; omega) (fun j hj => (HR.out.1.lt j hj).1)⟩
              rw [digs_drop hf hfl, ← List.append_assoc, ← HX.out]; exact hown3
            go_roundw
            case rel => exact ⟨f - 1, by congr 1; omega, by omega, HS2⟩
            case measure => simp [intOf2]; omega
          · exact cell_one_new _ _ _
          · simp [Value.oneCell']
          · have := HL.out; unfold maxLen; omega
          · have := HL.out; omega
          · simp; omega
        · obtain rfl : f = 0 := by omega
          have hconv := ownsRow_string HR.out.1
          rw [show (⟨(([45] : List UInt8) ++ digs (xs.drop 0)).toArray⟩ : ByteArray) = q1 from HQ1.out.symm] at hconv
          go_wp2
          go_ret2
          exact ⟨by rw [HQ2.out, show decide ((xs.length : Int) ≤ 200) = decide (xs.length ≤ 200) from decide_eq_decide.2 (by omega)]; rfl, HR.out.2⟩
    all_goals (first | exact cell_one_new _ _ _ | simp [Value.oneCell'] | decide | simp)

theorem rtext_nil (neg : Bool) (w : World) : Calls Tryz.prog 60 #[.bool neg, .slice none 0 0] w fun e w' => e = .returned (.tuple #[.string ⟨(rtextS neg []).1.toArray⟩, .bool (rtextS neg []).2]) ∧ Below w.heap.size w w' := by
  go_enter Tryz.func60, Tryz.ntmps60
  go_wp2
  go_ret2
  exact ⟨rfl, Below.refl _ _⟩

theorem rtext_zero (neg : Bool) (a : Addr) (c : Nat) (w : World) : Calls Tryz.prog 60 #[.bool neg, .slice (some a) 0 c] w fun e w' => e = .returned (.tuple #[.string ⟨(rtextS neg []).1.toArray⟩, .bool (rtextS neg []).2]) ∧ Below w.heap.size w w' := by
  go_enter Tryz.func60, Tryz.ntmps60
  go_wp2
  go_ret2
  exact ⟨rfl, Below.refl _ _⟩

theorem rtext_any (neg : Bool) {v : Value} {xs : List Int} (w : World) (h : Ints w v xs) (hl : xs.length ≤ 1000) (hd : Dgs 10 xs) :
    Calls Tryz.prog 60 #[.bool neg, v] w fun e w' => e = .returned (.tuple #[.string ⟨(rtextS neg xs).1.toArray⟩, .bool (rtextS neg xs).2]) ∧ Below w.heap.size w w' := by
  rcases h with ⟨rfl, rfl⟩ | ⟨b, off, cap, rfl, hcap, hb, hc⟩
  · exact rtext_nil neg w
  · rcases Nat.eq_zero_or_pos xs.length with e | e
    · obtain rfl := List.length_eq_zero_iff.1 e
      exact rtext_zero neg _ _ w
    · exact rtext_some neg b off cap xs w e hl hd hb hc

end Go.Proofs.Tryz
