/- Valid of package rational; its calculations: one operation after the other, until one fails. -/
import Derived.Test.YtjjmabokoendbaaGreatDoorIZ
import Derived.Test.YtjjmabokoendbaaGreatDoorPB
import Derived.RangeFuncBox
import Derived.RangeFuncNested
namespace Go.Proofs.Dt
theorem validR_1 {n d : List UInt8} (h : valid n = false) : validR n d = false := by unfold validR; rw [h]; rfl
theorem validR_2 {n d : List UInt8} (h : valid d = false) : validR n d = false := by unfold validR; rw [h, Bool.and_false]; rfl
theorem validR_3 {n d : List UInt8} (h : num d ≤ 0) : validR n d = false := by unfold validR; rw [decide_eq_false (show ¬ 0 < num d by omega), Bool.and_false]; rfl
theorem validR_4 {n d : List UInt8} (h : Int.gcd (num n) (num d) ≠ 1) : validR n d = false := by unfold validR; rw [decide_eq_false h, Bool.and_false]
theorem validR_5 {n d : List UInt8} (h1 : valid n = true) (h2 : valid d = true) (h3 : 0 < num d) (h : Int.gcd (num n) (num d) = 1) : validR n d = true := by
  unfold validR; rw [h1, h2, decide_eq_true h3, decide_eq_true h]; rfl
theorem gcd_valid {n d : List UInt8} (h1 : valid n = true) (h2 : valid d = true) : gcdS n d = ((sx (Int.gcd (num n) (num d) : Int)).data.toList, 0) := by
  have h := gcd_le_limit (num_lt h1) (num_lt h2)
  unfold gcdS bin
  rw [h1, h2]
  show res _ = _
  rw [res_ok (by simpa using h)]; rfl
theorem sx_one_ne {g : Int} (h : g ≠ 1) : sx g ≠ (⟨#[49]⟩ : ByteArray) := by
  intro e
  exact h ((Is.inj (x := sx g) (y := ⟨#[49]⟩) rfl Is.one).1 e)
theorem sx_one : sx 1 = (⟨#[49]⟩ : ByteArray) := Is.one.symm
end Go.Proofs.Dt
namespace Go.Proofs.Tryz
open Go.RowKit Go.Shelf Go.Proofs.Dt

/-- A fraction lies in block k. -/
abbrev FB (W : World) (k : Nat) (x y : ByteArray) : Prop := W.heap[k]? = some (.cells #[.string x, .string y] 26 (0, 0))
section
variable {W W' : World} {k n : Nat} {x y : ByteArray}
theorem FB.new (w : World) (x y : ByteArray) : FB (w.alloc (.cells #[.string x, .string y] 26)) w.heap.size x y := World.alloc_heap_new w _
theorem FB.lt (h : FB W k x y) : k < W.heap.size := (Array.getElem?_eq_some_iff.1 h).1
theorem FB.c0 (h : FB W k x y) : W.cell? ⟨k, 0, none⟩ = some (.string x) := by simp [World.cell?, show W.heap[k]? = _ from h]
theorem FB.c1 (h : FB W k x y) : W.cell? ⟨k, 1, none⟩ = some (.string y) := by simp [World.cell?, show W.heap[k]? = _ from h]
theorem FB.f0 (h : FB W k x y) : W.frozen? ⟨k, 0, none⟩ = false := by simp [World.frozen?, show W.heap[k]? = _ from h]
theorem FB.f1 (h : FB W k x y) : W.frozen? ⟨k, 1, none⟩ = false := by simp [World.frozen?, show W.heap[k]? = _ from h]
theorem FB.below (h : FB W k x y) (hb : Below n W W') (hk : k < n) : FB W' k x y := (hb.block k hk).trans h
end

set_option maxHeartbeats 1000000 in
set_option maxRecDepth 100000 in
theorem validR_any (x y : ByteArray) (w : World) (ht : Hid (Tab w)) : Calls Tryz.prog 27 #[.agg #[.string x, .string y]] w fun e w' => e = .returned (.bool (validR x.data.toList y.data.toList)) ∧ Below w.heap.size w w' := by
  obtain ⟨r, hr⟩ : ∃ r, r = validR x.data.toList y.data.toList := ⟨_, rfl⟩
  rw [← hr]
  have HR := Lib.hid hr
  obtain ⟨v1, h1⟩ : ∃ v, valid x.data.toList = v := ⟨_, rfl⟩
  obtain ⟨v2, h2⟩ : ∃ v, valid y.data.toList = v := ⟨_, rfl⟩
  have F1 := Lib.hid h1
  have F2 := Lib.hid h2
  obtain ⟨c, h3⟩ : ∃ c, cmpS y.data.toList (⟨#[48]⟩ : ByteArray).data.toList = c := ⟨_, rfl⟩
  have F3 := Lib.hid h3
  have HF0 : Hid (FB (w.alloc (.cells #[.string x, .string y] 26)) w.heap.size x y) := FB.new w x y
  have HB0 : Since w (w.alloc (.cells #[.string x, .string y] 26)) := (Below.refl _ w).alloc (Nat.le_refl _) _
  clear hr h1 h2 h3
  go_enter Tryz.func27, Tryz.ntmps27
  go_wp2_with fail
  generalize w.alloc (.cells #[.string x, .string y] 26) = w0 at HF0 HB0 ⊢
  refine (valid_any x w0).mono ?_
  rw [F1.out]
  rintro e w1 ⟨rfl, hb1⟩
  have HF1 : Hid (FB w1 w.heap.size x y) := HF0.out.below hb1 HF0.out.lt
  have HB1 : Since w w1 := HB0.next hb1
  clear hb1
  have c11 := HF1.out.c1
  have c10 := HF1.out.c0
  cases v1
  · go_wp2
    go_ret
    exact ⟨by rw [HR.out, validR_1 F1.out]; rfl, HB1.out⟩
  · go_wp2_with fail
    refine (valid_any y w1).mono ?_
    rw [F2.out]
    rintro e w2 ⟨rfl, hb2⟩
    have HF2 : Hid (FB w2 w.heap.size x y) := HF1.out.below hb2 HF1.out.lt
    have HB2 : Since w w2 := HB1.next hb2
    clear hb2 c11 c10
    have c21 := HF2.out.c1
    have c20 := HF2.out.c0
    cases v2
    · go_wp2
      go_ret
      exact ⟨by rw [HR.out, validR_2 F2.out]; rfl, HB2.out⟩
    · have hcs : c = sgn (num y.data.toList - 0) := F3.out.symm.trans (cmp_lit F2.out (by decide))
      have HG := Lib.hid (gcd_valid F1.out F2.out)
      by_cases hc : c ≤ 0
      · have HV : Hid (r = false) := by
          show r = false
          rw [HR.out]; refine validR_3 ?_
          rcases Int.lt_or_le 0 (num y.data.toList) with h | h
          · rw [hcs, sgn_of_gt (by omega)] at hc; omega
          · exact h
        clear hcs
        go_wp2_with fail
        refine (cmp_to c HB2 F3.out).mono ?_
        rintro e w3 ⟨rfl, HB3⟩
        go_wp2
        go_ret
        exact ⟨by rw [HV.out]; rfl, HB3.out⟩
      · have HP : Hid (0 < num y.data.toList) := by
          show 0 < _
          rcases Int.lt_or_le 0 (num y.data.toList) with h | h
          · exact h
          · exfalso; apply hc; rw [hcs]; unfold sgn; split
            · decide
            · rw [if_neg (by omega)]; decide
        clear hcs
        go_wp2_with fail
        refine (compareS_any y _ w2).mono ?_
        rw [F3.out]
        rintro e w3 ⟨rfl, hb3⟩
        have HF3 : Hid (FB w3 w.heap.size x y) := HF2.out.below hb3 HF2.out.lt
        have HB3 : Since w w3 := HB2.next hb3
        clear hb3 c21 c20
        have c31 := HF3.out.c1
        have c30 := HF3.out.c0
        by_cases hg : Int.gcd (num x.data.toList) (num y.data.toList) = 1
        · have HV : Hid (r = true ∧ gcdS x.data.toList y.data.toList = ((⟨#[49]⟩ : ByteArray).data.toList, 0)) := by
            refine ⟨?_, ?_⟩
            · rw [HR.out]; exact validR_5 F1.out F2.out HP.out hg
            · rw [HG.out, hg, Int.natCast_one, sx_one]
          clear hg
          go_wp2_with fail
          refine (gcd_to (⟨#[49]⟩ : ByteArray) 0 ht HB3 HV.out.2).mono ?_
          rintro e w4 ⟨rfl, HB4⟩
          go_wp2
          go_ret
          exact ⟨by rw [HV.out.1]; rfl, HB4.out⟩
        · have HV : Hid (r = false) := by
            show r = false
            rw [HR.out]; exact validR_4 hg
          have hne := toList_ne (sx_one_ne (g := (Int.gcd (num x.data.toList) (num y.data.toList) : Int)) (by omega))
          rw [show (⟨#[49]⟩ : ByteArray).toList = [49] from Go.ByteArray.toList_eq _] at hne
          clear hg
          revert HG hne
          generalize sx (Int.gcd (num x.data.toList) (num y.data.toList) : Int) = g
          intro HG hne
          go_wp2_with fail
          refine (gcd_to g 0 ht HB3 HG.out).mono ?_
          rintro e w4 ⟨rfl, HB4⟩
          go_wp2
          go_ret
          exact ⟨by rw [HV.out]; rfl, HB4.out⟩

/-- The calculation in block b, and whether it has failed. -/
abbrev Work (W : World) (b : Nat) (bad : Bool) : Prop := Boxed W b 71 (.bool bad)

/-- Asked for only where nothing has failed. -/
def Unless (bad : Bool) (p : Prop) : Prop := bad = false → p
/-- What an operation hands back: nothing, once one has failed. -/
def Did (bad : Bool) (r : ByteArray) (c : Int) (z : ByteArray) (bad' : Bool) : Prop := z = (if bad then ⟨#[]⟩ else r) ∧ bad' = (bad || decide (c ≠ 0))
theorem Did.bad (r : ByteArray) (c : Int) : Did true r c ⟨#[]⟩ true := ⟨rfl, rfl⟩
theorem Did.ok (r : ByteArray) : Did false r 0 r false := ⟨rfl, rfl⟩
theorem Did.no (r : ByteArray) : Did false r 30 r true := ⟨rfl, rfl⟩

/-- Of what lay there block b alone has changed. -/
abbrev Gr (b : Nat) (w w' : World) : Prop := w.grownBy w' (some b)
theorem Gr.of_below {b : Nat} {w w' : World} (h : Below w.heap.size w w') : Gr b w w' := ⟨h.os, h.tape, h.output, h.size, fun k hk _ => h.block k hk⟩
theorem Gr.since {b : Nat} {w0 w w' : World} (h : Since w0 w) (g : Gr b w w') (hb : w0.heap.size ≤ b) : Since w0 w' :=
  h.out.trans ⟨g.os, g.tape, g.output, g.size, fun k hk => g.block k (by have := h.out.size; omega) (by intro e; cases e; omega)⟩
theorem FB.kept {W W' : World} {k b : Nat} {x y : ByteArray} (h : FB W k x y) (g : Gr b W W') (hne : k ≠ b) : FB W' k x y := (g.block k h.lt (by intro e; cases e; exact hne rfl)).trans h

def DidPost (w0 w : World) (b : Nat) (z : ByteArray) (bad' : Bool) (e : Ending) (w' : World) : Prop := e = .returned (.string z) ∧ Hid (Work w' b bad') ∧ Hid (Gr b w w') ∧ Since w0 w'

set_option maxHeartbeats 1000000 in
theorem do_any (g b : Nat) (bad bad' : Bool) (x y r z : ByteArray) (c : Int) (w0 w : World) (eg : ∀ args w, (callFunc g args).run Tryz.prog w = .ok (.enter g args) w)
    (hB : Since w0 w) (hb0 : w0.heap.size ≤ b) (hw : Hid (Work w b bad)) (hd : Hid (Did bad r c z bad')) (hop : Hid (Unless bad <| Calls Tryz.prog g #[.string x, .string y] w fun e w' => e = .returned (.tuple #[.string r, .int .i64 c]) ∧ Below w.heap.size w w')) :
    Calls Tryz.prog 81 #[.pointer (some ⟨b, 0, none⟩), .func (.func g) #[] #[], .string x, .string y] w (DidPost w0 w b z bad') := by
  obtain ⟨h1, h2⟩ := hd.out
  subst h1 h2
  suffices h : Calls Tryz.prog 81 #[.pointer (some ⟨b, 0, none⟩), .func (.func g) #[] #[], .string x, .string y] w fun e w' => e = .returned (.string (if bad then ⟨#[]⟩ else r)) ∧ Hid (Work w' b (bad || decide (c ≠ 0))) ∧ Hid (Gr b w w') by
    refine h.mono ?_
    rintro e w' ⟨rfl, h1, h2⟩
    exact ⟨rfl, h1, h2, Gr.since hB h2.out hb0⟩
  clear hB hb0
  have hc := hw.out.cell
  clear hd
  cases bad with
  | true =>
    clear hop eg
    go_enter Tryz.func81, Tryz.ntmps81
    go_wp2
    go_ret
    exact ⟨rfl, hw, Gr.of_below (Below.refl _ _)⟩
  | false =>
    have HO : Hid (Calls Tryz.prog g #[.string x, .string y] w fun e w' => e = .returned (.tuple #[.string r, .int .i64 c]) ∧ Below w.heap.size w w') := hop.out rfl
    clear hop
    go_enter Tryz.func81, Tryz.ntmps81
    go_wp2_with fail
    refine HO.out.mono ?_
    rintro e w1 ⟨rfl, hb⟩
    have HW1 : Hid (Work w1 b false) := boxed_below hw.out hb hw.out.lt
    have HB : Hid (Gr b w w1) := Gr.of_below hb
    have c1 := HW1.out.cell
    have f1 := HW1.out.frozen
    clear hc hb
    by_cases h0 : c = 0
    · subst h0
      go_wp2
      go_ret
      exact ⟨rfl, HW1.out.set _, HB.out.trans (grownBy_setCell' _ _ _)⟩
    · have hd : (c != 0) = true := by simpa using h0
      go_wp2
      go_ret
      exact ⟨rfl, HW1.out.set _, HB.out.trans (grownBy_setCell' _ _ _)⟩

theorem op_of {g : Nat} {args : Array Value} {w : World} {p : List UInt8 × Int} {r : ByteArray} {c : Int} (h : Calls Tryz.prog g args w (OpPost w p)) (hp : p = (r.data.toList, c)) :
    Calls Tryz.prog g args w fun e w' => e = .returned (.tuple #[.string r, .int .i64 c]) ∧ Below w.heap.size w w' :=
  h.mono (by rintro e w' ⟨rfl, hb⟩; exact ⟨by rw [hp]; rfl, hb⟩)

theorem wadd_any (b : Nat) (bad bad' : Bool) (x y r z : ByteArray) (c : Int) (w0 w : World) (ht : Hid (Tab w0)) (hB : Since w0 w) (hb0 : w0.heap.size ≤ b) (hw : Hid (Work w b bad)) (hd : Hid (Did bad r c z bad'))
    (h : Hid (Unless bad <| addS x.data.toList y.data.toList = (r.data.toList, c))) :
    Calls Tryz.prog 81 #[.pointer (some ⟨b, 0, none⟩), .func (.func 51) #[] #[], .string x, .string y] w (DidPost w0 w b z bad') :=
  do_any 51 b bad bad' x y r z c w0 w (enters_of Tryz.func51 (by kernel_rfl) rfl) hB hb0 hw hd (fun e => op_of (add_any x y w (hB.tab ht)) (h.out e))

theorem wsub_any (b : Nat) (bad bad' : Bool) (x y r z : ByteArray) (c : Int) (w0 w : World) (ht : Hid (Tab w0)) (hB : Since w0 w) (hb0 : w0.heap.size ≤ b) (hw : Hid (Work w b bad)) (hd : Hid (Did bad r c z bad'))
    (h : Hid (Unless bad <| subS x.data.toList y.data.toList = (r.data.toList, c))) :
    Calls Tryz.prog 81 #[.pointer (some ⟨b, 0, none⟩), .func (.func 50) #[] #[], .string x, .string y] w (DidPost w0 w b z bad') :=
  do_any 50 b bad bad' x y r z c w0 w (enters_of Tryz.func50 (by kernel_rfl) rfl) hB hb0 hw hd (fun e => op_of (sub_any x y w (hB.tab ht)) (h.out e))

theorem wgcd_any (b : Nat) (bad bad' : Bool) (x y r z : ByteArray) (c : Int) (w0 w : World) (ht : Hid (Tab w0)) (hB : Since w0 w) (hb0 : w0.heap.size ≤ b) (hw : Hid (Work w b bad)) (hd : Hid (Did bad r c z bad'))
    (h : Hid (Unless bad <| gcdS x.data.toList y.data.toList = (r.data.toList, c))) :
    Calls Tryz.prog 81 #[.pointer (some ⟨b, 0, none⟩), .func (.func 59) #[] #[], .string x, .string y] w (DidPost w0 w b z bad') :=
  do_any 59 b bad bad' x y r z c w0 w (enters_of Tryz.func59 (by kernel_rfl) rfl) hB hb0 hw hd (fun e => op_of (gcd_any x y w (hB.tab ht)) (h.out e))

theorem wmulop_any (b : Nat) (bad bad' : Bool) (x y r z : ByteArray) (c : Int) (w0 w : World) (ht : Hid (Tab w0)) (hB : Since w0 w) (hb0 : w0.heap.size ≤ b) (hw : Hid (Work w b bad)) (hd : Hid (Did bad r c z bad'))
    (h : Hid (Unless bad <| mulS x.data.toList y.data.toList = (r.data.toList, c))) :
    Calls Tryz.prog 81 #[.pointer (some ⟨b, 0, none⟩), .func (.func 83) #[] #[], .string x, .string y] w (DidPost w0 w b z bad') :=
  do_any 83 b bad bad' x y r z c w0 w (enters_of Tryz.func83 (by kernel_rfl) rfl) hB hb0 hw hd (fun e => op_of (mul_any x y w (hB.tab ht)) (h.out e))

theorem wmul_any (b : Nat) (bad bad' : Bool) (x y r z : ByteArray) (c : Int) (w0 w : World) (ht : Hid (Tab w0)) (hB : Since w0 w) (hb0 : w0.heap.size ≤ b) (hw : Hid (Work w b bad)) (hd : Hid (Did bad r c z bad'))
    (h : Hid (Unless bad <| mulS x.data.toList y.data.toList = (r.data.toList, c))) :
    Calls Tryz.prog 53 #[.pointer (some ⟨b, 0, none⟩), .string x, .string y] w (DidPost w0 w b z bad') := by
  have HO := Lib.hid (do_any 83 b bad bad' x y r z c w0 w (enters_of Tryz.func83 (by kernel_rfl) rfl) hB hb0 hw hd (fun e => op_of (mul_any x y w (hB.tab ht)) (h.out e)))
  clear ht hw hd h hB hb0
  go_enter Tryz.func53, Tryz.ntmps53
  go_wp2_with fail
  refine HO.out.mono ?_
  rintro e w1 ⟨rfl, hw, hb, hs⟩
  go_wp2
  go_ret
  exact ⟨rfl, hw, hb, hs⟩

theorem quot1_any (x y r s : ByteArray) (c : Int) (w : World) (ht : Hid (Tab w)) (h : Hid (divS x.data.toList y.data.toList = (r.data.toList, s.data.toList, c))) :
    Calls Tryz.prog 111 #[.string x, .string y] w fun e w' => e = .returned (.tuple #[.string r, .int .i64 c]) ∧ Below w.heap.size w w' := by
  have HB := Since.refl w
  go_enter Tryz.func111, Tryz.ntmps111
  go_wp2_with fail
  refine (div_to r s c ht HB h.out).mono ?_
  rintro e w1 ⟨rfl, hb⟩
  go_wp2
  go_ret2
  exact ⟨rfl, hb.out⟩

theorem wquot_any (b : Nat) (bad bad' : Bool) (x y r s z : ByteArray) (c : Int) (w0 w : World) (ht : Hid (Tab w0)) (hB : Since w0 w) (hb0 : w0.heap.size ≤ b) (hw : Hid (Work w b bad)) (hd : Hid (Did bad r c z bad'))
    (h : Hid (Unless bad <| divS x.data.toList y.data.toList = (r.data.toList, s.data.toList, c))) :
    Calls Tryz.prog 84 #[.pointer (some ⟨b, 0, none⟩), .string x, .string y] w (DidPost w0 w b z bad') := by
  have HO := Lib.hid (do_any 111 b bad bad' x y r z c w0 w (enters_of Tryz.func111 (by kernel_rfl) rfl) hB hb0 hw hd (fun e => quot1_any x y r s c w (hB.tab ht) (h.out e)))
  clear ht hw hd h hB hb0
  go_enter Tryz.func84, Tryz.ntmps84
  go_wp2_with fail
  refine HO.out.mono ?_
  rintro e w1 ⟨rfl, hw, hb, hs⟩
  go_wp2
  go_ret
  exact ⟨rfl, hw, hb, hs⟩

end Go.Proofs.Tryz
