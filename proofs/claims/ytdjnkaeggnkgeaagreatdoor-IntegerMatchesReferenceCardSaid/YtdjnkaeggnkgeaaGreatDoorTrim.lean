/- 'trimmed': zeros at the end of a number are left out. */ -/
import Derived.Test.YtdjnkaeggnkgeaaGreatDoorBase
namespace Go.Proofs.Tryz
open Go.RowKit Go.Proofs.Dt

def lenOf : Value → Nat | .slice _ n _ => n | _ => 0

/-- How much of a list stays: k places; behind them are zeros; the last one is none. -/
def Cut (xs : List Int) (k : Nat) : Prop := k ≤ xs.length ∧ (∀ j, k ≤ j → j < xs.length → xs[j]?.getD 0 = 0) ∧ (k = 0 ∨ xs[k - 1]?.getD 0 ≠ 0)

/-- What 'trimmed' returns. -/
def TrimPost (v0 : Value) (w : World) (xs : List Int) (e : Ending) (w' : World) : Prop := ∃ v k, e = .returned v ∧ Cut xs k ∧ Ints w v (xs.take k) ∧ (∀ b, Away b v0 → Away b v) ∧ w = w'

theorem away_same (a : Addr) (l c l' c' : Nat) : ∀ b, Away b (.slice (some a) l c) → Away b (.slice (some a) l' c') := fun b h a' l2 c2 e => by
  simp only [Value.slice.injEq, Option.some.injEq] at e
  obtain ⟨rfl, _, _⟩ := e
  exact h _ l c rfl

theorem away_at (B o l c b : Nat) (h : b < B) : Away b (.slice (some ⟨B, o, none⟩) l c) := fun a' l2 c2 e => by
  simp only [Value.slice.injEq, Option.some.injEq] at e
  obtain ⟨rfl, _, _⟩ := e
  show B ≠ b
  omega

theorem ints_take {w : World} {b off cap : Nat} {xs : List Int} {k : Nat} (hk : k ≤ xs.length) (hcap : xs.length ≤ cap) (hb : b < w.heap.size) (hc : ∀ j, j < xs.length → w.cell? ⟨b, off + j, none⟩ = some (.int .i64 (xs[j]?.getD 0))) :
    Ints w (.slice (some ⟨b, off, none⟩) k cap) (xs.take k) := by
  have hl : (xs.take k).length = k := by rw [List.length_take]; omega
  refine .inr ⟨b, off, cap, by rw [hl], by omega, hb, fun j hj => ?_⟩
  rw [hl] at hj
  rw [hc j (by omega), List.getElem?_take, if_pos hj]

set_option maxHeartbeats 800000 in
theorem trimmed_some (b off cap : Nat) (xs : List Int) (w : World) (hl : xs.length ≤ 9223372036854775807) (hcap : xs.length ≤ cap) (hb : b < w.heap.size) (hc : ∀ j, j < xs.length → w.cell? ⟨b, off + j, none⟩ = some (.int .i64 (xs[j]?.getD 0))) :
    Calls Tryz.prog 65 #[.slice (some ⟨b, off, none⟩) xs.length cap] w (TrimPost (.slice (some ⟨b, off, none⟩) xs.length cap) w xs) := by
  go_enter Tryz.func65, Tryz.ntmps65
  go_wp2
  go_loop [0] (fun s => ∃ k, k ≤ xs.length ∧ s = .slice (some ⟨b, off, none⟩) k cap ∧ Hid (∀ j, k ≤ j → j < xs.length → xs[j]?.getD 0 = 0)) (fun s => lenOf s)
  case atStart => exact ⟨xs.length, Nat.le_refl _, rfl, fun j h1 h2 => by omega⟩
  case round =>
    obtain ⟨k, hk, rfl, hz⟩ := hrel
    by_cases h0 : 0 < k
    · have hcell := hc (k - 1) (by omega)
      by_cases hx : xs[k - 1]?.getD 0 = 0
      · rw [hx] at hcell
        have HX := Lib.hid hx
        have HC := Lib.hid hc
        clear hx hc
        have e1 : ((k : Int) - 1).toNat = k - 1 := by omega
        go_wp2
        go_round
        case rel =>
          refine ⟨k - 1, by omega, ?_, fun j h1 h2 => ?_⟩
          · rfl
          · by_cases e : j = k - 1
            · rw [e]; exact HX.out
            · exact hz.out j (by omega) h2
        case measure => simp [lenOf]; omega
      · have hx2 : (xs[k - 1]?.getD 0 == 0) = false := by simpa using hx
        have HX := Lib.hid hx
        have HC := Lib.hid hc
        clear hx hc
        have e1 : ((k : Int) - 1).toNat = k - 1 := by omega
        go_wp2
        go_ret
        exact ⟨_, k, rfl, ⟨hk, hz.out, .inr HX.out⟩, ints_take hk hcap hb HC.out, away_same _ _ _ _ _, rfl⟩
    · obtain rfl : k = 0 := by omega
      have HC := Lib.hid hc
      clear hc
      go_wp2
      go_ret
      exact ⟨_, 0, rfl, ⟨hk, hz.out, .inl rfl⟩, ints_take hk hcap hb HC.out, away_same _ _ _ _ _, rfl⟩

theorem trimmed_nil (w : World) : Calls Tryz.prog 65 #[.slice none 0 0] w (TrimPost (.slice none 0 0) w []) := by
  go_enter Tryz.func65, Tryz.ntmps65
  go_wp2
  refine wp_loop_rounds 1 ?_
  rw [rounds_succ]
  go_wp2
  go_ret
  exact ⟨_, 0, rfl, ⟨Nat.le_refl _, fun j h1 h2 => by simp at h2, .inl rfl⟩, Ints.nil w, fun _ h => h, rfl⟩

theorem trimmed_any {v : Value} {xs : List Int} (w : World) (hl : xs.length ≤ 9223372036854775807) (h : Ints w v xs) : Calls Tryz.prog 65 #[v] w (TrimPost v w xs) := by
  rcases h with ⟨rfl, rfl⟩ | ⟨b, off, cap, rfl, hcap, hb, hc⟩
  · exact trimmed_nil w
  · exact trimmed_some b off cap xs w hl hcap hb hc

end Go.Proofs.Tryz
