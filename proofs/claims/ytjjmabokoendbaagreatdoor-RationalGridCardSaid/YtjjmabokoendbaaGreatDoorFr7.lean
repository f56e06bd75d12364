/- Print and Parse of package rational. -/
import Derived.Test.YtjjmabokoendbaaGreatDoorFr3
import Derived.Lib.IndexMore
import Derived.Lib.Join
namespace Go.Proofs.Dt
/-- The text of a fraction. -/
def printL (n d : List UInt8) : List UInt8 := if validR n d then (if d = [49] then n else n ++ 47 :: d) else []
/-- A text around its first stroke. -/
def numL (s : List UInt8) : List UInt8 := (Go.Lib.cut s [47]).1
def denL (s : List UInt8) : List UInt8 := if (Go.Lib.cut s [47]).2.2 then (Go.Lib.cut s [47]).2.1 else [49]
def parseO (s : List UInt8) : Option Rat := if printL (numL s) (denL s) = s ∧ s ≠ [] then frac (numL s) (denL s) else none
theorem printL_no {n d : List UInt8} (h : validR n d = false) : printL n d = [] := by unfold printL; rw [h]; rfl
theorem printL_whole {n d : List UInt8} (h : validR n d = true) (h1 : d = [49]) : printL n d = n := by unfold printL; rw [h, if_pos rfl, if_pos h1]
theorem printL_part {n d : List UInt8} (h : validR n d = true) (h1 : d ≠ [49]) : printL n d = n ++ 47 :: d := by unfold printL; rw [h, if_pos rfl, if_neg h1]
theorem valid_len {s : List UInt8} (h : valid s = true) : s.length ≤ 201 := by rw [← str_num h]; exact str_len (num_lt h)
theorem printL_len (n d : List UInt8) : (printL n d).length ≤ 403 := by
  cases h : validR n d
  · rw [printL_no h]; simp
  · obtain ⟨h1, h2, _⟩ := validR_parts h
    have := valid_len h1
    have := valid_len h2
    by_cases e : d = [49]
    · rw [printL_whole h e]; omega
    · rw [printL_part h e, List.length_append, List.length_cons]; omega
theorem parseO_fits (s : List UInt8) : Fits (parseO s) := by
  unfold parseO
  split
  · exact frac_fits _ _
  · intro _ h; cases h
theorem arr_list {x : ByteArray} {l : List UInt8} (h : x = ⟨l.toArray⟩) : x.data.toList = l := by rw [h]
theorem list_eq {x : ByteArray} {l : List UInt8} (h : x.data.toList = l) : x = ⟨l.toArray⟩ := by rw [← h]
theorem bytes_ext {x y : ByteArray} (h : x.data.toList = y.data.toList) : x = y := ByteArray.ext (Array.ext' h)
theorem toList_eq_data (x : ByteArray) : x.toList = x.data.toList := Go.ByteArray.toList_eq x
end Go.Proofs.Dt
namespace Go.Proofs.Tryz
open Go.RowKit Go.Shelf Go.Proofs.Dt

theorem join_two (x y : List UInt8) : Go.Lib.join [x, y] [47] = x ++ 47 :: y := by rw [Go.Lib.join_cons]; simp [Go.Lib.joinTail]

set_option maxHeartbeats 2000000 in
set_option maxRecDepth 100000 in
theorem fprint_any (x y z : ByteArray) (w : World) (ht : Hid (Tab w)) (hz : Hid (z.data.toList = printL x.data.toList y.data.toList)) : Calls Tryz.prog 24 #[.agg #[.string x, .string y]] w fun e w' => e = .returned (.string z) ∧ Since w w' := by
  have HF0 : Hid (FB (w.alloc (.cells #[.string x, .string y] 26)) w.heap.size x y) := FB.new w x y
  have HB0 : Since w (w.alloc (.cells #[.string x, .string y] 26)) := (Below.refl _ w).alloc (Nat.le_refl _) _
  have a0 := HF0.out.c0; have a1 := HF0.out.c1
  go_enter Tryz.func24, Tryz.ntmps24
  go_wp2_with fail
  clear a0 a1
  generalize w.alloc (.cells #[.string x, .string y] 26) = W1 at HF0 HB0 ⊢
  refine (validR_any x y W1 (HB0.tab ht)).mono ?_
  obtain ⟨v, hv⟩ : ∃ v, validR x.data.toList y.data.toList = v := ⟨_, rfl⟩
  rw [hv]
  rintro e W2 ⟨rfl, hb2⟩
  have HF2 : Hid (FB W2 w.heap.size x y) := HF0.out.below hb2 HF0.out.lt
  have HB2 : Since w W2 := HB0.next hb2
  clear hb2 HF0 HB0
  cases v
  · obtain rfl : z = ⟨#[]⟩ := bytes_ext (by rw [hz.out, printL_no hv])
    clear hv
    go_wp2
    go_ret
    exact ⟨rfl, HB2⟩
  · by_cases h1 : y = ⟨#[49]⟩
    · subst h1
      obtain rfl : z = x := bytes_ext (by rw [hz.out, printL_whole hv rfl])
      clear hv
      have a0 := HF2.out.c0; have a1 := HF2.out.c1
      go_wp2
      go_ret
      exact ⟨rfl, HB2⟩
    · have hne := toList_ne h1
      rw [show (⟨#[49]⟩ : ByteArray).toList = [49] from Go.ByteArray.toList_eq _] at hne
      have hp := printL_part hv (fun e => h1 (bytes_ext e))
      rw [hp] at hz
      have hl1 := valid_len (validR_parts hv).1
      have hl2 := valid_len (validR_parts hv).2.1
      have HJ : Hid (∀ W, W2.heap.size < W.heap.size → (∀ (j : Nat) (s : ByteArray), [x, y][j]? = some s → W.cell? ⟨W2.heap.size, 0 + j, none⟩ = some (.string s)) → Calls Tryz.prog 56 #[.slice (some ⟨W2.heap.size, 0, none⟩) 2 2, .string ⟨#[47]⟩] W fun e w' => e = .returned (.string z) ∧ Below W.heap.size W w') := by
        intro W hW hc
        refine (Tryz.strings_Join W2.heap.size 0 2 [x, y] ⟨#[47]⟩ W hc hW (by simp) (by simp) ?_).mono ?_
        · show (Go.Lib.join [x.data.toList, y.data.toList] [47]).length ≤ _
          rw [join_two, List.length_append, List.length_cons]; omega
        · rintro e w' ⟨rfl, hb⟩
          refine ⟨?_, hb⟩
          rw [show z = ⟨(Go.Lib.join [x.data.toList, y.data.toList] [47]).toArray⟩ from list_eq (by rw [join_two]; exact hz.out)]; rfl
      have HC : Hid (∀ (j : Nat) (s : ByteArray), [x, y][j]? = some s → (W2.alloc (.cells #[.string x, .string y] 9)).cell? ⟨W2.heap.size, 0 + j, none⟩ = some (.string s)) := by
        intro j s hs
        rw [World.cell?_alloc_at _ _ _ _ rfl]
        match j, hs with
        | 0, hs => cases hs; rfl
        | 1, hs => cases hs; rfl
      have HBa : Since w (W2.alloc (.cells #[.string x, .string y] 9)) := HB2.out.alloc HB2.out.size _
      have hsz : Hid (W2.heap.size < (W2.alloc (.cells #[.string x, .string y] 9)).heap.size) := by show _ < _; simp
      clear hv h1 hp hl1 hl2
      have a0 := HF2.out.c0; have a1 := HF2.out.c1
      go_wp2_with fail
      clear a0 a1
      refine (HJ.out _ hsz.out HC.out).mono ?_
      rintro e W4 ⟨rfl, hb4⟩
      go_wp2
      go_ret
      exact ⟨rfl, HBa.next hb4⟩

/-- The library's variable that Cut reads. -/
abbrev Lens (W : World) : Prop := ∃ m : Int, W.cell? ⟨0, 0, none⟩ = some (.int .i64 m)
theorem Lens.lt {W : World} (h : Lens W) : 0 < W.heap.size := by
  obtain ⟨m, h⟩ := h
  rcases Nat.lt_or_ge 0 W.heap.size with h1 | h1
  · exact h1
  · exfalso
    simp [World.cell?, Array.getElem?_eq_none (show W.heap.size ≤ _ from h1)] at h
theorem Lens.since {w0 W : World} (h : Hid (Lens w0)) (s : Since w0 W) : Lens W := by
  obtain ⟨m, hm⟩ := h.out
  exact ⟨m, (s.out.cell (p := ⟨0, 0, none⟩) h.out.lt).trans hm⟩

theorem cut_any (s a b : ByteArray) (f : Bool) (w : World) (hs : s.size ≤ 1000) (hm : Hid (Lens w)) (h : Hid (Go.Lib.cut s.data.toList [47] = (a.data.toList, b.data.toList, f))) :
    Calls Tryz.prog 57 #[.string s, .string ⟨#[47]⟩] w fun e w' => e = .returned (.tuple #[.string a, .string b, .bool f]) ∧ Since w w' := by
  obtain ⟨m, hm⟩ := hm.out
  refine (Tryz.strings_Cut s ⟨#[47]⟩ m w (by omega) hm).mono ?_
  rintro e w' ⟨rfl, n, rfl⟩
  rw [show (⟨#[47]⟩ : ByteArray).data.toList = [47] from rfl, h.out]
  exact ⟨rfl, below_drewN (Below.refl _ _) n⟩

set_option maxHeartbeats 2000000 in
set_option maxRecDepth 100000 in
theorem fparse_any (s u v : ByteArray) (c : Int) (w : World) (ht : Hid (Tab w)) (hm : Hid (Lens w)) (hs : Hid (s.size ≤ 1000)) (hr : Hid (out (parseO s.data.toList) = (u, v, c))) :
    Calls Tryz.prog 25 #[.string s] w (RedPost w u v c) := by
  obtain ⟨a, b, f, hcut⟩ : ∃ (a b : ByteArray) (f : Bool), Go.Lib.cut s.data.toList [47] = (a.data.toList, b.data.toList, f) := ⟨⟨(Go.Lib.cut s.data.toList [47]).1.toArray⟩, ⟨(Go.Lib.cut s.data.toList [47]).2.1.toArray⟩, (Go.Lib.cut s.data.toList [47]).2.2, rfl⟩
  have HCut := Lib.hid hcut
  obtain ⟨d, hd⟩ : ∃ d : ByteArray, d = if f then b else ⟨#[49]⟩ := ⟨_, rfl⟩
  obtain ⟨z, hz⟩ : ∃ z : ByteArray, z.data.toList = printL a.data.toList d.data.toList := ⟨⟨(printL a.data.toList d.data.toList).toArray⟩, rfl⟩
  have hpo : parseO s.data.toList = if z.data.toList = s.data.toList ∧ s.data.toList ≠ [] then frac a.data.toList d.data.toList else none := by
    unfold parseO numL denL
    rw [hcut, hz, hd]
    cases f <;> rfl
  rw [hpo] at hr
  have HZ := Lib.hid hz
  have HF0 : Hid (FB (w.alloc (.cells #[.string ⟨#[]⟩, .string ⟨#[]⟩] 26)) w.heap.size ⟨#[]⟩ ⟨#[]⟩) := FB.new w _ _
  have HR0 : Hid (FB ((w.alloc (.cells #[.string ⟨#[]⟩, .string ⟨#[]⟩] 26)).alloc (.cells #[.string ⟨#[]⟩, .string ⟨#[49]⟩] 26)) (w.heap.size + 1) ⟨#[]⟩ ⟨#[49]⟩) := by
    have h := FB.new (w.alloc (.cells #[.string ⟨#[]⟩, .string ⟨#[]⟩] 26)) ⟨#[]⟩ ⟨#[49]⟩
    rw [World.size_alloc] at h; exact h
  have HF1 : Hid (FB ((w.alloc (.cells #[.string ⟨#[]⟩, .string ⟨#[]⟩] 26)).alloc (.cells #[.string ⟨#[]⟩, .string ⟨#[49]⟩] 26)) w.heap.size ⟨#[]⟩ ⟨#[]⟩) := (Below.heap_alloc _ _ _ HF0.out.lt).trans HF0.out
  have HB1 : Since w ((w.alloc (.cells #[.string ⟨#[]⟩, .string ⟨#[]⟩] 26)).alloc (.cells #[.string ⟨#[]⟩, .string ⟨#[49]⟩] 26)) := ((Below.refl _ w).alloc (Nat.le_refl _) _).alloc (by simp) _
  clear hcut hz hpo HF0
  go_enter Tryz.func25, Tryz.ntmps25
  go_wp2_with fail
  generalize (w.alloc (.cells #[.string ⟨#[]⟩, .string ⟨#[]⟩] 26)).alloc (.cells #[.string ⟨#[]⟩, .string ⟨#[49]⟩] 26) = W1 at HR0 HF1 HB1 ⊢
  refine (cut_any s a b f W1 hs.out (Lens.since hm HB1) HCut).mono ?_
  rintro e W2 ⟨rfl, hb2⟩
  have HR2 : Hid (FB W2 (w.heap.size + 1) ⟨#[]⟩ ⟨#[49]⟩) := HR0.out.below hb2.out HR0.out.lt
  have HF2 : Hid (FB W2 w.heap.size ⟨#[]⟩ ⟨#[]⟩) := HF1.out.below hb2.out HF1.out.lt
  have HB2 : Since w W2 := HB1.next hb2.out
  clear hb2 HR0 HF1 HB1 HCut
  obtain ⟨W3, hW3⟩ : ∃ W3, W3 = if f then (W2.setCell ⟨w.heap.size + 1, 0, none⟩ (.string a)).setCell ⟨w.heap.size + 1, 1, none⟩ (.string b) else W2.setCell ⟨w.heap.size + 1, 0, none⟩ (.string a) := ⟨_, rfl⟩
  have HR3 : Hid (FB W3 (w.heap.size + 1) a d) := by
    have h' : W2.heap[w.heap.size + 1]? = some (.cells #[.string ⟨#[]⟩, .string ⟨#[49]⟩] 26 (0, 0)) := HR2.out
    show _ = _
    rw [hW3, hd]
    cases f <;> simp [World.setCell, Array.getElem?_modify, h']
  have HF3 : Hid (FB W3 w.heap.size ⟨#[]⟩ ⟨#[]⟩) := by
    show _ = _
    rw [hW3]
    cases f
    · exact (Below.heap_setCell _ _ _ _ (by simp)).trans HF2.out
    · exact ((Below.heap_setCell _ _ _ _ (by simp)).trans (Below.heap_setCell _ _ _ _ (by simp))).trans HF2.out
  have HB3 : Since w W3 := by
    rw [hW3]
    cases f
    · exact HB2.out.setCell (p := ⟨w.heap.size + 1, 0, none⟩) (by simp) _
    · exact HB2.put (by omega) _ _
  have f0 := HR2.out.f0; have f1 := HR2.out.f1
  have q0 := HR2.out.c0; have q1 := HR2.out.c1
  clear hd
  cases f
  · have hW4 : W3 = W2.setCell ⟨w.heap.size + 1, 0, none⟩ (.string a) := hW3
    clear hW3
    have a0 := HR3.out.c0; have a1 := HR3.out.c1
    rw [hW4] at a0 a1
    have HW4 := Lib.hid hW4
    clear hW4
    go_wp2_with fail
    clear a0 a1
    rw [← show W3 = _ from HW4.out]
    clear f0 f1 q0 q1 HW4
    refine (fprint_any a d z W3 (HB3.tab ht) HZ).mono ?_
    rintro e W4 ⟨rfl, hb4⟩
    have HR4 : Hid (FB W4 (w.heap.size + 1) a d) := HR3.out.below hb4.out HR3.out.lt
    have HF4 : Hid (FB W4 w.heap.size ⟨#[]⟩ ⟨#[]⟩) := HF3.out.below hb4.out HF3.out.lt
    have HB4 : Since w W4 := HB3.next hb4.out
    clear hb4 HR3 HF3 HB3
    have f0 := HF4.out.f0; have f1 := HF4.out.f1
    have q0 := HF4.out.c0; have q1 := HF4.out.c1
    have a0 := HR4.out.c0; have a1 := HR4.out.c1
    by_cases hzs : z = s
    · subst hzs
      by_cases he : z = ⟨#[]⟩
      · subst he
        rw [if_neg (fun h => h.2 rfl)] at hr
        cases hr.out
        clear hr
        go_wp2
        refine bodyPost_ret (results_row_tmp (p := 2) (u := 3) (by kernel_rfl) _ _ w.heap.size _ _ rfl (HF4.out.put _ _)) rfl ?_
        exact ⟨rfl, HB4.put (Nat.le_refl _) _ _⟩
      · have hne : z.data.toList ≠ [] := fun h => he (bytes_ext h)
        rw [if_pos ⟨rfl, hne⟩] at hr
        have hem : z.toList.isEmpty = false := by rw [toList_eq_data]; cases hl : z.data.toList with
          | nil => exact absurd hl hne
          | cons _ _ => rfl
        have HV : Hid (u = a ∧ v = d ∧ c = 0) := by
          cases hv : validR a.data.toList d.data.toList
          · exfalso
            have h := HZ.out
            rw [printL_no hv] at h
            exact hne h
          · obtain ⟨q, hq, _⟩ := frac_yes hv
            have h := hr.out
            rw [hq, out_fr (Fr.of_frac hq)] at h
            cases h
            exact ⟨rfl, rfl, rfl⟩
        obtain ⟨rfl, rfl, rfl⟩ := HV.out
        clear hr hne he HV
        go_wp2
        refine bodyPost_ret (results_row_tmp (p := 2) (u := 3) (by kernel_rfl) _ _ w.heap.size _ _ rfl (HF4.out.put _ _)) rfl ?_
        exact ⟨rfl, HB4.put (Nat.le_refl _) _ _⟩
    · have hne := toList_ne hzs
      rw [if_neg (fun h => hzs (bytes_ext h.1))] at hr
      cases hr.out
      clear hr hzs
      go_wp2
      refine bodyPost_ret (results_row_tmp (p := 2) (u := 3) (by kernel_rfl) _ _ w.heap.size _ _ rfl (HF4.out.put _ _)) rfl ?_
      exact ⟨rfl, HB4.put (Nat.le_refl _) _ _⟩
  · have hW4 : W3 = (W2.setCell ⟨w.heap.size + 1, 0, none⟩ (.string a)).setCell ⟨w.heap.size + 1, 1, none⟩ (.string b) := hW3
    clear hW3
    have a0 := HR3.out.c0; have a1 := HR3.out.c1
    rw [hW4] at a0 a1
    have HW4 := Lib.hid hW4
    clear hW4
    go_wp2_with fail
    clear a0 a1
    rw [← show W3 = _ from HW4.out]
    clear f0 f1 q0 q1 HW4
    refine (fprint_any a d z W3 (HB3.tab ht) HZ).mono ?_
    rintro e W4 ⟨rfl, hb4⟩
    have HR4 : Hid (FB W4 (w.heap.size + 1) a d) := HR3.out.below hb4.out HR3.out.lt
    have HF4 : Hid (FB W4 w.heap.size ⟨#[]⟩ ⟨#[]⟩) := HF3.out.below hb4.out HF3.out.lt
    have HB4 : Since w W4 := HB3.next hb4.out
    clear hb4 HR3 HF3 HB3
    have f0 := HF4.out.f0; have f1 := HF4.out.f1
    have q0 := HF4.out.c0; have q1 := HF4.out.c1
    have a0 := HR4.out.c0; have a1 := HR4.out.c1
    by_cases hzs : z = s
    · subst hzs
      by_cases he : z = ⟨#[]⟩
      · subst he
        rw [if_neg (fun h => h.2 rfl)] at hr
        cases hr.out
        clear hr
        go_wp2
        refine bodyPost_ret (results_row_tmp (p := 2) (u := 3) (by kernel_rfl) _ _ w.heap.size _ _ rfl (HF4.out.put _ _)) rfl ?_
        exact ⟨rfl, HB4.put (Nat.le_refl _) _ _⟩
      · have hne : z.data.toList ≠ [] := fun h => he (bytes_ext h)
        rw [if_pos ⟨rfl, hne⟩] at hr
        have hem : z.toList.isEmpty = false := by rw [toList_eq_data]; cases hl : z.data.toList with
          | nil => exact absurd hl hne
          | cons _ _ => rfl
        have HV : Hid (u = a ∧ v = d ∧ c = 0) := by
          cases hv : validR a.data.toList d.data.toList
          · exfalso
            have h := HZ.out
            rw [printL_no hv] at h
            exact hne h
          · obtain ⟨q, hq, _⟩ := frac_yes hv
            have h := hr.out
            rw [hq, out_fr (Fr.of_frac hq)] at h
            cases h
            exact ⟨rfl, rfl, rfl⟩
        obtain ⟨rfl, rfl, rfl⟩ := HV.out
        clear hr hne he HV
        go_wp2
        refine bodyPost_ret (results_row_tmp (p := 2) (u := 3) (by kernel_rfl) _ _ w.heap.size _ _ rfl (HF4.out.put _ _)) rfl ?_
        exact ⟨rfl, HB4.put (Nat.le_refl _) _ _⟩
    · have hne := toList_ne hzs
      rw [if_neg (fun h => hzs (bytes_ext h.1))] at hr
      cases hr.out
      clear hr hzs
      go_wp2
      refine bodyPost_ret (results_row_tmp (p := 2) (u := 3) (by kernel_rfl) _ _ w.heap.size _ _ rfl (HF4.out.put _ _)) rfl ?_
      exact ⟨rfl, HB4.put (Nat.le_refl _) _ _⟩

end Go.Proofs.Tryz
