/- 'isValid': which strings are integers. -/
import Derived.Test.YtdjnkaeggnkgeaaGreatDoorSpec
import Derived.Test.YtdjnkaeggnkgeaaGreatDoorBase
import Derived.Test.YtdjnkaeggnkgeaaGreatDoorShelf
import Derived.Shelf.Strings.SlTrimAscii
namespace Go.Proofs.Tryz
open Go.RowKit Go.Shelf Go.Proofs.Dt

theorem trimPrefix_body (s : List UInt8) : Lib.trimPrefix s [45] = body s := by
  unfold Lib.trimPrefix Lib.hasPrefix body
  cases s with
  | nil => rfl
  | cons c r =>
    by_cases h : c = 45
    · subst h; simp
    · have h' : ¬ (45 = c) := fun e => h e.symm
      simp [h, h']

theorem isDig_mem (c : UInt8) : ([48, 49, 50, 51, 52, 53, 54, 55, 56, 57] : List UInt8).contains c = isDig c := by
  have key : ∀ v : Fin 256, ([48, 49, 50, 51, 52, 53, 54, 55, 56, 57] : List UInt8).contains (UInt8.ofNat v.val) = isDig (UInt8.ofNat v.val) := by decide +kernel
  have := key ⟨c.toNat, c.toNat_lt⟩
  simpa using this

theorem dropWhile_nil {α : Type} (p : α → Bool) (l : List α) : l.dropWhile p = [] ↔ l.all p = true := by
  induction l with
  | nil => simp
  | cons c r ih =>
    by_cases h : p c = true
    · simp [h, ih]
    · simp [h]

theorem trimS_nil (l : List UInt8) : Lib.trimS l [48, 49, 50, 51, 52, 53, 54, 55, 56, 57] = [] ↔ l.all isDig = true := by
  have e : (fun c => ([48, 49, 50, 51, 52, 53, 54, 55, 56, 57] : List UInt8).contains c) = isDig := funext isDig_mem
  unfold Lib.trimS Lib.trimLeftS Lib.trimRightS
  rw [e, dropWhile_nil]
  constructor
  · intro h
    by_cases hd : l.reverse.dropWhile isDig = []
    · have := (dropWhile_nil isDig l.reverse).1 hd
      simpa using this
    · exfalso
      obtain ⟨c, r, hc⟩ := List.exists_cons_of_ne_nil hd
      have h1 := List.head_dropWhile_not isDig hd
      have h2 : (l.reverse.dropWhile isDig).all isDig = true := by simpa using h
      have h3 := List.all_eq_true.1 h2 _ (List.head_mem hd)
      rw [h1] at h3
      exact absurd h3 (by simp)
  · intro h
    rw [(dropWhile_nil isDig l.reverse).2 (by simpa using h)]
    rfl

set_option maxHeartbeats 2000000 in
set_option maxRecDepth 100000 in
theorem isValid_any (s : ByteArray) (w : World) : Calls Tryz.prog 47 #[.string s] w fun e w' => e = .returned (.bool (valid s.data.toList)) ∧ Below w.heap.size w w' := by
  have hP := fun w => Tryz.strings_TrimPrefix s ⟨#[45]⟩ w
  obtain ⟨d, hd⟩ : ∃ d : ByteArray, d = ⟨(Lib.trimPrefix s.data.toList [45]).toArray⟩ := ⟨_, rfl⟩
  have hP' : ∀ w, Calls Tryz.prog 73 #[.string s, .string ⟨#[45]⟩] w fun e w' => e = .returned (.string d) ∧ w' = w := by rw [hd]; exact hP
  have hdb : d.data.toList = body s.data.toList := by rw [hd, trimPrefix_body]
  clear hd hP
  have hcT := fun w h => Any.strings_Trim_laid Tryz.lays160 (by kernel_rfl) d ⟨#[48, 49, 50, 51, 52, 53, 54, 55, 56, 57]⟩ w h (by decide) (ascii_of_all (by decide))
  obtain ⟨t, ht⟩ : ∃ t : ByteArray, t = ⟨(Lib.trimS d.data.toList [48, 49, 50, 51, 52, 53, 54, 55, 56, 57]).toArray⟩ := ⟨_, rfl⟩
  have hcT' : ∀ w, d.size ≤ 9223372036854775807 → Calls Tryz.prog 74 #[.string d, .string ⟨#[48, 49, 50, 51, 52, 53, 54, 55, 56, 57]⟩] w fun e w' => e = .returned (.string t) ∧ Below w.heap.size w w' := by
    rw [ht]; exact hcT
  have htb : t.data.toList = Lib.trimS (body s.data.toList) [48, 49, 50, 51, 52, 53, 54, 55, 56, 57] := by rw [ht, hdb]
  clear ht hcT
  have hlen : d.size = (body s.data.toList).length := by rw [← hdb]; exact Lib.size_eq d
  go_enter Tryz.func47, Tryz.ntmps47
  by_cases h1 : d.toList.isEmpty = true
  · have e1 : (body s.data.toList).isEmpty = true := by rw [← hdb, ← ByteArray.toList_eq]; exact h1
    go_wp2_with (go_at_call 73; refine (hP' _).mono ?_; rintro e w' ⟨rfl, rfl⟩)
    go_ret
    exact ⟨congrArg (fun b => Ending.returned (.bool b)) (show false = _ by unfold valid; rw [e1]; rfl), Below.refl _ _⟩
  · rw [Bool.not_eq_true] at h1
    have e1 : (body s.data.toList).isEmpty = false := by rw [← hdb, ← ByteArray.toList_eq]; exact h1
    by_cases h2 : 200 < (d.size : Int)
    · have e2 : decide ((body s.data.toList).length ≤ 200) = false := decide_eq_false (by omega)
      go_wp2_with (go_at_call 73; refine (hP' _).mono ?_; rintro e w' ⟨rfl, rfl⟩)
      go_ret
      exact ⟨congrArg (fun b => Ending.returned (.bool b)) (show false = _ by unfold valid; rw [e1, e2]; rfl), Below.refl _ _⟩
    · have e2 : decide ((body s.data.toList).length ≤ 200) = true := decide_eq_true (by omega)
      have h5 : 0 < d.size := by
        rcases Nat.eq_zero_or_pos d.size with e | e
        · rw [List.isEmpty_eq_false_iff] at e1
          exact absurd (List.eq_nil_of_length_eq_zero (by omega)) e1
        · exact e
      by_cases h3 : t.toList.isEmpty = true
      · have e3 : (body s.data.toList).all isDig = true := by rw [ByteArray.toList_eq, htb, List.isEmpty_iff] at h3; exact (trimS_nil _).1 h3
        by_cases h4 : (s.toList == [48]) = true
        · have e4 : decide (s.data.toList = [48]) = true := by rw [ByteArray.toList_eq] at h4; exact decide_eq_true (by simpa using h4)
          go_wp2_with (first | (go_at_call 73; refine (hP' _).mono ?_; rintro e w' ⟨rfl, rfl⟩) | (go_at_call 74; refine (hcT' _ (by omega)).mono ?_; rintro e w2 ⟨rfl, hb2⟩))
          go_ret
          exact ⟨congrArg (fun b => Ending.returned (.bool b)) (show true = _ by unfold valid; rw [e1, e2, e3, e4]; rfl), hb2⟩
        · rw [Bool.not_eq_true] at h4
          have e4 : decide (s.data.toList = [48]) = false := by rw [ByteArray.toList_eq] at h4; exact decide_eq_false (by simpa using h4)
          have e5 : ((((d[0]'h5).toNat : Int)) != 48) = decide ((body s.data.toList).head? ≠ some 48) := by
            have hh : (body s.data.toList).head? = some (d[0]'h5) := by
              rw [← hdb, List.head?_eq_getElem?, Array.getElem?_toList]
              exact Array.getElem?_eq_getElem h5
            rw [hh]
            generalize d[0]'h5 = c
            by_cases hc : c = 48
            · subst hc; rfl
            · have h6 : ¬ ((c.toNat : Int) = 48) := fun e => hc (UInt8.toNat_inj.1 (by show c.toNat = 48; omega))
              rw [decide_eq_true (by intro e; exact hc (Option.some.inj e)), bne_iff_ne.2 h6]
          have E5 := Lib.hid e5
          clear e5
          go_wp2_with (first | (go_at_call 73; refine (hP' _).mono ?_; rintro e w' ⟨rfl, rfl⟩) | (go_at_call 74; refine (hcT' _ (by omega)).mono ?_; rintro e w2 ⟨rfl, hb2⟩))
          go_ret
          exact ⟨congrArg (fun b => Ending.returned (.bool b)) (E5.out.trans (by unfold valid; rw [e1, e2, e3, e4]; rfl)), hb2⟩
      · rw [Bool.not_eq_true] at h3
        have e3 : (body s.data.toList).all isDig = false := by
          rw [ByteArray.toList_eq, htb] at h3
          cases h : (body s.data.toList).all isDig with
          | false => rfl
          | true => rw [(trimS_nil _).2 h] at h3; cases h3
        go_wp2_with (first | (go_at_call 73; refine (hP' _).mono ?_; rintro e w' ⟨rfl, rfl⟩) | (go_at_call 74; refine (hcT' _ (by omega)).mono ?_; rintro e w2 ⟨rfl, hb2⟩))
        go_ret
        exact ⟨congrArg (fun b => Ending.returned (.bool b)) (show false = _ by unfold valid; rw [e1, e2, e3]; rfl), hb2⟩

end Go.Proofs.Tryz
