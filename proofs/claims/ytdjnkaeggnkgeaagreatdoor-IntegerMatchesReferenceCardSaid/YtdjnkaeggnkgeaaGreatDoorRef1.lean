/- The reference's 'trim' and 'text': what they return. -/
import Derived.Test.YtdjnkaeggnkgeaaGreatDoorRefP
import Derived.Test.YtdjnkaeggnkgeaaGreatDoorFold
import Derived.Laws.IdiomStrings
namespace Go.Proofs.Tryz
open Go.RowKit Go.Proofs.Dt

set_option maxHeartbeats 800000 in
theorem rtrim_some (b off cap : Nat) (xs : List Int) (w : World) (hl : xs.length ≤ 9223372036854775807) (hcap : xs.length ≤ cap) (hb : b < w.heap.size) (hc : ∀ j, j < xs.length → w.cell? ⟨b, off + j, none⟩ = some (.int .i64 (xs[j]?.getD 0))) :
    Calls Tryz.prog 37 #[.slice (some ⟨b, off, none⟩) xs.length cap] w (TrimPost (.slice (some ⟨b, off, none⟩) xs.length cap) w xs) := by
  go_enter Tryz.func37, Tryz.ntmps37
  go_wp2
  go_loop [0] (fun s => ∃ k, k ≤ xs.length ∧ s = .slice (some ⟨b, off, none⟩) k cap ∧ Hid (∀ j, k ≤ j → j < xs.length → xs[j]?.getD 0 = 0)) (fun s => lenOf s)
  case atStart => exact ⟨xs.length, Nat.le_refl _, rfl, fun j h1 h2 => by omega⟩
  case round =>
    obtain ⟨k, hk, rfl, hz⟩ := hrel
    by_cases h0 : 0 < k
    · have hcell := hc (k - 1) (by omega)
      by_cases hx : xs[k - 1]?.getD 0 = 0
      · rw [hx] at hcell
        have HX := Lib.hid hx
        have HC := Lib.hid hc
        clear hx hc
        have e1 : ((k : Int) - 1).toNat = k - 1 := by omega
        go_wp2
        go_round
        case rel =>
          refine ⟨k - 1, by omega, ?_, fun j h1 h2 => ?_⟩
          · rfl
          · by_cases e : j = k - 1
            · rw [e]; exact HX.out
            · exact hz.out j (by omega) h2
        case measure => simp [lenOf]; omega
      · have hx2 : (xs[k - 1]?.getD 0 == 0) = false := by simpa using hx
        have HX := Lib.hid hx
        have HC := Lib.hid hc
        clear hx hc
        have e1 : ((k : Int) - 1).toNat = k - 1 := by omega
        go_wp2
        go_ret
        exact ⟨_, k, rfl, ⟨hk, hz.out, .inr HX.out⟩, ints_take hk hcap hb HC.out, away_same _ _ _ _ _, rfl⟩
    · obtain rfl : k = 0 := by omega
      have HC := Lib.hid hc
      clear hc
      go_wp2
      go_ret
      exact ⟨_, 0, rfl, ⟨hk, hz.out, .inl rfl⟩, ints_take hk hcap hb HC.out, away_same _ _ _ _ _, rfl⟩

theorem rtrim_nil (w : World) : Calls Tryz.prog 37 #[.slice none 0 0] w (TrimPost (.slice none 0 0) w []) := by
  go_enter Tryz.func37, Tryz.ntmps37
  go_wp2
  refine wp_loop_rounds 1 ?_
  rw [rounds_succ]
  go_wp2
  go_ret
  exact ⟨_, 0, rfl, ⟨Nat.le_refl _, fun j h1 h2 => by simp at h2, .inl rfl⟩, Ints.nil w, fun _ h => h, rfl⟩

theorem rtrim_any {v : Value} {xs : List Int} (w : World) (hl : xs.length ≤ 9223372036854775807) (h : Ints w v xs) : Calls Tryz.prog 37 #[v] w (TrimPost v w xs) := by
  rcases h with ⟨rfl, rfl⟩ | ⟨b, off, cap, rfl, hcap, hb, hc⟩
  · exact rtrim_nil w
  · exact rtrim_some b off cap xs w hl hcap hb hc


theorem info5 : (Tryz.prog.info? 5).map (fun i => (i.zero, i.size, i.bytes)) = some (some (.int .u8 0), 1, 1) := by kernel_rfl

/-- The cells of a row of bytes. -/
def u8s (l : List UInt8) : List Value := l.map fun c => .int .u8 c.toNat
theorem u8s_length (l : List UInt8) : (u8s l).length = l.length := by simp [u8s]
theorem u8s_append (l m : List UInt8) : u8s (l ++ m) = u8s l ++ u8s m := by simp [u8s]

theorem ownsRow_string {W : World} {B : Nat} {v : Value} {l : List UInt8} (h : W.ownsRow B 5 1 v l.length (u8s l)) : (convert 72 9 v).run Tryz.prog W = .ok (.string ⟨l.toArray⟩) W := by
  obtain ⟨_, ⟨rfl, hn⟩ | ⟨g, cap, cur, rfl, hb, hg, hc, _, hs, hx⟩⟩ := h
  · obtain rfl : l = [] := List.length_eq_zero_iff.1 hn
    rw [run_convert_bytes_string W 72 9 5 none 0 0 Tryz.underlying72 Tryz.underlying5 Tryz.underlying9]; rfl
  · refine run_convert_bytes_back (P := Tryz.prog) W 72 9 5 ⟨g, 0, none⟩ cap l Tryz.underlying72 Tryz.underlying5 Tryz.underlying9 (fun j hj => ?_)
    have h1 : (u8s l)[j]? = some (.int .u8 (l[j]).toNat) := by simp [u8s, List.getElem?_eq_getElem hj]
    rw [← hx, Nat.mul_one, List.getElem?_take, if_pos hj, Array.getElem?_toList] at h1
    rw [Addr.add_lit, Nat.zero_add]
    simp [World.cell?, hg, h1]

end Go.Proofs.Tryz
