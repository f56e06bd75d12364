/- The four operations of package rational. -/
import Derived.Test.YtjjmabokoendbaaGreatDoorFr2
namespace Go.Proofs.Tryz
open Go.RowKit Go.Shelf Go.Proofs.Dt

theorem Gr.cell {b : Nat} {w w' : World} (g : Gr b w w') {p : Addr} (h : p.block < w.heap.size) (hne : p.block ≠ b) : w'.cell? p = w.cell? p := World.cell?_of_block (w := w) (g.block p.block h (by intro e; cases e; exact hne rfl))

/-- One of two. -/
def pick2 (x y : ByteArray) : Nat → ByteArray
  | 0 => x
  | _ => y
/-- Whether a calculation has failed behind k fractions. -/
def chk (bad : Bool) (X Y : Nat → ByteArray) : Nat → Bool
  | 0 => bad
  | k + 1 => chk bad X Y k || !validR (X k).data.toList (Y k).data.toList

set_option maxHeartbeats 1000000 in
set_option maxRecDepth 100000 in
theorem check_any (b bl m : Nat) (bad : Bool) (X Y : Nat → ByteArray) (w0 w : World) (ht : Hid (Tab w0)) (hB : Since w0 w) (hb0 : w0.heap.size ≤ b) (hw : Hid (Work w b bad)) (hbl : Hid (bl ≠ b ∧ bl < w.heap.size)) (hm : m ≤ 2)
    (hc : Hid (∀ j, j < m → w.cell? ⟨bl, j * 2, none⟩ = some (.string (X j)) ∧ w.cell? ⟨bl, j * 2 + 1, none⟩ = some (.string (Y j)))) :
    Calls Tryz.prog 52 #[.pointer (some ⟨b, 0, none⟩), .slice (some ⟨bl, 0, none⟩) m m] w fun e w' => e = .returned (.tuple #[]) ∧ Hid (Work w' b (chk bad X Y m)) ∧ Hid (Gr b w w') ∧ Since w0 w' := by
  suffices h : Calls Tryz.prog 52 #[.pointer (some ⟨b, 0, none⟩), .slice (some ⟨bl, 0, none⟩) m m] w fun e w' => e = .returned (.tuple #[]) ∧ Hid (Work w' b (chk bad X Y m)) ∧ Hid (Gr b w w') by
    refine h.mono ?_
    rintro e w' ⟨rfl, h1, h2⟩
    exact ⟨rfl, h1, h2, Gr.since hB h2.out hb0⟩
  have hb0' := Lib.hid hb0
  clear hb0
  go_enter Tryz.func52, Tryz.ntmps52
  go_wp2_with fail
  go_loopw [8] (fun i wr => ∃ k : Nat, i = .int .i64 (k : Int) ∧ k ≤ m ∧ Hid (Work wr b (chk bad X Y k)) ∧ Hid (Gr b w wr)) (fun i _ => m - (intOf i).toNat)
  case atStart => exact ⟨0, rfl, by omega, hw, Gr.of_below (Below.refl _ _)⟩
  case round =>
    obtain ⟨k, rfl, hk, HW, HG⟩ := hrel
    by_cases hkm : k < m
    · have h0 := (Gr.cell HG.out (p := ⟨bl, k * 2, none⟩) hbl.out.2 hbl.out.1).trans (hc.out k hkm).1
      have h1 := (Gr.cell HG.out (p := ⟨bl, k * 2 + 1, none⟩) hbl.out.2 hbl.out.1).trans (hc.out k hkm).2
      have hk1 : Hid (chk bad X Y (k + 1) = (chk bad X Y k || !validR (X k).data.toList (Y k).data.toList)) := rfl
      revert HW hk1 h0 h1
      generalize chk bad X Y k = bk
      generalize X k = x
      generalize Y k = y
      intro HW h0 h1 hk1
      have HWa : Hid (Work (wr.alloc (.cells #[.string x, .string y] 26)) b bk) := HW.out.alloc _
      have HFa : Hid (FB (wr.alloc (.cells #[.string x, .string y] 26)) wr.heap.size x y) := FB.new _ _ _
      have HGa : Hid (Gr b w (wr.alloc (.cells #[.string x, .string y] 26))) := HG.out.trans (Gr.of_below ((Below.refl _ wr).alloc (Nat.le_refl _) _))
      have c0 := HWa.out.cell
      have f0 := HWa.out.frozen
      cases bk
      · go_wp2_with fail
        generalize wr.alloc (.cells #[.string x, .string y] 26) = wa at HWa HFa HGa ⊢
        refine (validR_any x y wa (Since.tab ht (Gr.since hB HGa.out hb0'.out))).mono ?_
        obtain ⟨v, hv⟩ : ∃ v, validR x.data.toList y.data.toList = v := ⟨_, rfl⟩
        rw [hv]
        have hk2 : Hid (chk bad X Y (k + 1) = !v) := by show _ = _; rw [hk1.out, hv]; rfl
        clear hv hk1 h0 h1
        rintro e w2 ⟨rfl, hb2⟩
        have HW2 : Hid (Work w2 b false) := boxed_below HWa.out hb2 HWa.out.lt
        have HG2 : Hid (Gr b w w2) := HGa.out.trans (Gr.of_below hb2)
        have c0 := HW2.out.cell
        have f0 := HW2.out.frozen
        clear hb2
        go_wp2
        go_roundw
        case rel => exact ⟨k + 1, by go_num, by omega, by show Work _ _ _; rw [hk2.out]; exact HW2.out.set _, HG2.out.trans (grownBy_setCell' _ _ _)⟩
        case measure => simp [intOf]; omega
      · have hk2 : Hid (chk bad X Y (k + 1) = true) := hk1.out
        go_wp2
        go_roundw
        case rel => exact ⟨k + 1, by go_num, by omega, by show Work _ _ _; rw [hk2.out]; exact HWa.out.set _, HGa.out.trans (grownBy_setCell' _ _ _)⟩
        case measure => simp [intOf]; omega
    · obtain rfl : k = m := by omega
      go_wp2
      go_end0
      exact ⟨rfl, HW, HG⟩

end Go.Proofs.Tryz
namespace Go.Proofs.Dt
theorem some_pair (p : List UInt8 × Int) : ∃ (r : ByteArray) (c : Int), p = (r.data.toList, c) := ⟨⟨p.1.toArray⟩, p.2, rfl⟩
theorem frac_no {n d : List UInt8} (h : validR n d = false) : frac n d = none := frac_none.2 h
theorem frac_yes {n d : List UInt8} (h : validR n d = true) : ∃ q : Rat, frac n d = some q ∧ n = str q.num ∧ d = str (q.den : Int) ∧ q.num.natAbs < limit ∧ q.den < limit := by
  cases hf : frac n d with
  | none => rw [frac_none.1 hf] at h; cases h
  | some q => exact ⟨q, rfl, frac_some hf⟩
theorem ok_res {n : Int} (h : ok n = true) : res n = (str n, 0) := res_ok (ok_lt h)
theorem no_res {n : Int} (h : ok n = false) : res n = ([], 30) := res_no (ok_not h)
theorem mulS_res {x y : Int} (hx : x.natAbs < limit) (hy : y.natAbs < limit) : mulS (str x) (str y) = res (x * y) := by unfold mulS; rw [bin_str _ hx hy]
theorem den_lim {q : Rat} (h : q.den < limit) : (q.den : Int).natAbs < limit := by rw [Int.natAbs_natCast]; exact h
theorem list_inj {r : ByteArray} {x : Int} (h : str x = r.data.toList) : valid r.data.toList = valid (str x) ∧ num r.data.toList = x := by rw [← h]; exact ⟨rfl, num_str x⟩
theorem valid_ok {x : Int} (h : ok x = true) : valid (str x) = true := (valid_str x).2 (ok_lt h)
end Go.Proofs.Dt
namespace Go.Proofs.Tryz
open Go.RowKit Go.Shelf Go.Proofs.Dt

/-- What 'reduced' is told: nothing, once something has failed; or a number over another. -/
def Told (bad : Bool) (n d : ByteArray) (o : Option Rat) : Prop := if bad then o = none else valid n.data.toList = true ∧ valid d.data.toList = true ∧ o = makeR (num n.data.toList) (num d.data.toList)
theorem Told.none (n d : ByteArray) : Told true n d none := rfl

theorem prod_told {f : Rat → Rat → Option Rat} {N D : Rat → Rat → Int} {x y x' y' r1 r2 z1 z2 s1 t1 s2 t2 : ByteArray} {c1 c2 : Int} {b1 b2 : Bool} (hf : ∀ p q, f p q = if ok (N p q) && ok (D p q) then makeR (N p q) (D p q) else none)
    (h1 : mulS s1.data.toList t1.data.toList = (r1.data.toList, c1)) (h2 : mulS s2.data.toList t2.data.toList = (r2.data.toList, c2))
    (k : ∀ p q : Rat, x.data.toList = str p.num → y.data.toList = str (p.den : Int) → x'.data.toList = str q.num → y'.data.toList = str (q.den : Int) → p.num.natAbs < limit → p.den < limit → q.num.natAbs < limit → q.den < limit → mulS s1.data.toList t1.data.toList = res (N p q) ∧ mulS s2.data.toList t2.data.toList = res (D p q))
    (e1 : Did (chk false (pick2 x x') (pick2 y y') 2) r1 c1 z1 b1) (e2 : Did b1 r2 c2 z2 b2) : Told b2 z1 z2 (lift2 f (frac x.data.toList y.data.toList) (frac x'.data.toList y'.data.toList)) := by
  have hc : chk false (pick2 x x') (pick2 y y') 2 = (!validR x.data.toList y.data.toList || !validR x'.data.toList y'.data.toList) := rfl
  rw [hc] at e1
  cases hv1 : validR x.data.toList y.data.toList
  · rw [hv1] at e1
    obtain ⟨rfl, rfl⟩ := e1
    obtain ⟨rfl, rfl⟩ := e2
    rw [frac_no hv1, lift2_none_left]; exact Told.none _ _
  · cases hv2 : validR x'.data.toList y'.data.toList
    · rw [hv1, hv2] at e1
      obtain ⟨rfl, rfl⟩ := e1
      obtain ⟨rfl, rfl⟩ := e2
      rw [frac_no hv2, lift2_none_right]; exact Told.none _ _
    · rw [hv1, hv2] at e1
      obtain ⟨p, hp, px, py, pn, pd⟩ := frac_yes hv1
      obtain ⟨q, hq, qx, qy, qn, qd⟩ := frac_yes hv2
      obtain ⟨k1, k2⟩ := k p q px py qx qy pn pd qn qd
      rw [hp, hq]
      show Told _ _ _ (f p q)
      rw [hf]
      cases o1 : ok (N p q)
      · rw [h1, no_res o1] at k1
        obtain ⟨_, rfl⟩ := Prod.mk.inj k1
        obtain ⟨rfl, rfl⟩ := e1
        obtain ⟨rfl, rfl⟩ := e2
        exact Told.none _ _
      · rw [h1, ok_res o1] at k1
        obtain ⟨k1a, rfl⟩ := Prod.mk.inj k1
        obtain ⟨rfl, rfl⟩ := e1
        cases o2 : ok (D p q)
        · rw [h2, no_res o2] at k2
          obtain ⟨_, rfl⟩ := Prod.mk.inj k2
          obtain ⟨rfl, rfl⟩ := e2
          exact Told.none _ _
        · rw [h2, ok_res o2] at k2
          obtain ⟨k2a, rfl⟩ := Prod.mk.inj k2
          obtain ⟨rfl, rfl⟩ := e2
          obtain ⟨v1, n1⟩ := list_inj k1a.symm
          obtain ⟨v2, n2⟩ := list_inj k2a.symm
          show valid _ = true ∧ valid _ = true ∧ _ = makeR _ _
          exact ⟨v1.trans (valid_ok o1), v2.trans (valid_ok o2), by rw [show num _ = _ from n1, show num _ = _ from n2]; rfl⟩

/-- The blocks of an operation on two fractions: both, the result, the calculation. -/
structure OpSt (w W : World) (x y x' y' : ByteArray) (bad : Bool) : Prop where
  a : FB W w.heap.size x y
  b : FB W (w.heap.size + 1) x' y'
  r : FB W (w.heap.size + 1 + 1) ⟨#[]⟩ ⟨#[]⟩
  k : Work W (w.heap.size + 1 + 1 + 1) bad
  s : Since w W
abbrev opW (w : World) (x y x' y' : ByteArray) : World := (((w.alloc (.cells #[.string x, .string y] 26)).alloc (.cells #[.string x', .string y'] 26)).alloc (.cells #[.string ⟨#[]⟩, .string ⟨#[]⟩] 26))
section
variable {w W W' : World} {x y x' y' : ByteArray} {bad bad' : Bool}
theorem opW_facts (w : World) (x y x' y' : ByteArray) : FB (opW w x y x' y') w.heap.size x y ∧ FB (opW w x y x' y') (w.heap.size + 1) x' y' ∧ FB (opW w x y x' y') (w.heap.size + 1 + 1) ⟨#[]⟩ ⟨#[]⟩ ∧ Since w (opW w x y x' y') := by
  have a1 := FB.new w x y
  have a2 := (Below.heap_alloc (w.alloc (.cells #[.string x, .string y] 26)) (.cells #[.string x', .string y'] 26) _ a1.lt).trans a1
  have b2 := FB.new (w.alloc (.cells #[.string x, .string y] 26)) x' y'
  rw [World.size_alloc] at b2
  have a3 := (Below.heap_alloc ((w.alloc (.cells #[.string x, .string y] 26)).alloc (.cells #[.string x', .string y'] 26)) (.cells #[.string ⟨#[]⟩, .string ⟨#[]⟩] 26) _ (FB.lt a2)).trans a2
  have b3 := (Below.heap_alloc ((w.alloc (.cells #[.string x, .string y] 26)).alloc (.cells #[.string x', .string y'] 26)) (.cells #[.string ⟨#[]⟩, .string ⟨#[]⟩] 26) _ (FB.lt b2)).trans b2
  have r3 := FB.new ((w.alloc (.cells #[.string x, .string y] 26)).alloc (.cells #[.string x', .string y'] 26)) ⟨#[]⟩ ⟨#[]⟩
  rw [World.size_alloc, World.size_alloc] at r3
  exact ⟨a3, b3, r3, (((Below.refl _ w).alloc (Nat.le_refl _) _).alloc (by simp) _).alloc (by simp; omega) _⟩
theorem OpSt.start (w : World) (x y x' y' : ByteArray) (bad : Bool) : OpSt w ((opW w x y x' y').alloc (.cells #[.bool bad] 71)) x y x' y' bad := by
  obtain ⟨a, b, r, s⟩ := opW_facts w x y x' y'
  have hs : (opW w x y x' y').heap.size = w.heap.size + 1 + 1 + 1 := by simp [opW]
  have k := Boxed.new (opW w x y x' y') 71 (.bool bad)
  rw [hs] at k
  exact ⟨(Below.heap_alloc _ _ _ a.lt).trans a, (Below.heap_alloc _ _ _ b.lt).trans b, (Below.heap_alloc _ _ _ r.lt).trans r, k, s.out.alloc s.out.size _⟩
theorem OpSt.alloc (h : OpSt w W x y x' y' bad) (o : Obj) : OpSt w (W.alloc o) x y x' y' bad :=
  ⟨(Below.heap_alloc _ _ _ h.a.lt).trans h.a, (Below.heap_alloc _ _ _ h.b.lt).trans h.b, (Below.heap_alloc _ _ _ h.r.lt).trans h.r, h.k.alloc o, h.s.out.alloc h.s.out.size _⟩
theorem OpSt.next (h : OpSt w W x y x' y' bad) (g : Hid (Gr (w.heap.size + 1 + 1 + 1) W W')) (k : Hid (Work W' (w.heap.size + 1 + 1 + 1) bad')) : OpSt w W' x y x' y' bad' :=
  ⟨h.a.kept g.out (by omega), h.b.kept g.out (by omega), h.r.kept g.out (by omega), k.out, Gr.since h.s g.out (by omega)⟩
theorem OpSt.after (h : OpSt w W x y x' y' bad) (g : Hid (Below W.heap.size W W')) : OpSt w W' x y x' y' bad :=
  ⟨h.a.below g.out h.a.lt, h.b.below g.out h.b.lt, h.r.below g.out h.r.lt, boxed_below h.k g.out h.k.lt, h.s.next g.out⟩
end
theorem opRow_cells (W : World) (x y x' y' : ByteArray) : ∀ j, j < 2 → (W.alloc (.cells #[.string x, .string y, .string x', .string y'] 26)).cell? ⟨W.heap.size, j * 2, none⟩ = some (.string (pick2 x x' j)) ∧ (W.alloc (.cells #[.string x, .string y, .string x', .string y'] 26)).cell? ⟨W.heap.size, j * 2 + 1, none⟩ = some (.string (pick2 y y' j)) := by
  intro j hj
  rw [World.cell?_alloc_at _ _ _ _ rfl, World.cell?_alloc_at _ _ _ _ rfl]
  match j, hj with
  | 0, _ => exact ⟨rfl, rfl⟩
  | 1, _ => exact ⟨rfl, rfl⟩

set_option maxHeartbeats 2000000 in
set_option maxRecDepth 100000 in
theorem fmul_any (x y x' y' u v : ByteArray) (c : Int) (w : World) (ht : Hid (Tab w)) (hr : Hid (out (mulO (frac x.data.toList y.data.toList) (frac x'.data.toList y'.data.toList)) = (u, v, c))) :
    Calls Tryz.prog 18 #[.agg #[.string x, .string y], .agg #[.string x', .string y']] w (RedPost w u v c) := by
  have S0 := OpSt.start w x y x' y' false
  have HC := Lib.hid (opRow_cells ((opW w x y x' y').alloc (.cells #[.bool false] 71)) x y x' y')
  have S1 := Lib.hid (S0.alloc (.cells #[.string x, .string y, .string x', .string y'] 26))
  have hsz : ((opW w x y x' y').alloc (.cells #[.bool false] 71)).heap.size = w.heap.size + 1 + 1 + 1 + 1 := by simp [opW]
  rw [hsz] at HC
  have hsz2 : Hid (w.heap.size + 1 + 1 + 1 + 1 ≠ w.heap.size + 1 + 1 + 1 ∧ w.heap.size + 1 + 1 + 1 + 1 < (((opW w x y x' y').alloc (.cells #[.bool false] 71)).alloc (.cells #[.string x, .string y, .string x', .string y'] 26)).heap.size) := by
    refine ⟨by omega, ?_⟩
    rw [World.size_alloc, hsz]; omega
  obtain ⟨r1, c1, h1⟩ := some_pair (mulS x.data.toList x'.data.toList)
  obtain ⟨r2, c2, h2⟩ := some_pair (mulS y.data.toList y'.data.toList)
  obtain ⟨z1, b1, e1⟩ : ∃ z1 b1, Did (chk false (pick2 x x') (pick2 y y') 2) r1 c1 z1 b1 := ⟨_, _, rfl, rfl⟩
  obtain ⟨z2, b2, e2⟩ : ∃ z2 b2, Did b1 r2 c2 z2 b2 := ⟨_, _, rfl, rfl⟩
  have HT : Hid (Told b2 z1 z2 (mulO (frac x.data.toList y.data.toList) (frac x'.data.toList y'.data.toList))) :=
    prod_told (N := fun p q => p.num * q.num) (D := fun p q => (p.den : Int) * q.den) (fun p q => rfl) h1 h2 (fun p q px py qx qy pn pd qn qd => by rw [px, qx, py, qy]; exact ⟨mulS_res pn qn, mulS_res (den_lim pd) (den_lim qd)⟩) e1 e2
  have E1 := Lib.hid e1
  have E2 := Lib.hid e2
  have F1 := Lib.hid (show Unless _ _ from fun _ => h1 : Unless (chk false (pick2 x x') (pick2 y y') 2) (mulS x.data.toList x'.data.toList = (r1.data.toList, c1)))
  have F2 := Lib.hid (show Unless _ _ from fun _ => h2 : Unless b1 (mulS y.data.toList y'.data.toList = (r2.data.toList, c2)))
  clear S0 hsz h1 h2 e1 e2
  have a0 := S1.out.a.c0; have a1 := S1.out.a.c1; have a2 := S1.out.b.c0; have a3 := S1.out.b.c1
  go_enter Tryz.func18, Tryz.ntmps18
  go_wp2_with fail
  clear a0 a1 a2 a3
  generalize ((opW w x y x' y').alloc (.cells #[.bool false] 71)).alloc (.cells #[.string x, .string y, .string x', .string y'] 26) = W1 at S1 HC hsz2 ⊢
  refine (check_any (w.heap.size + 1 + 1 + 1) (w.heap.size + 1 + 1 + 1 + 1) 2 false (pick2 x x') (pick2 y y') w W1 ht S1.out.s (by omega) S1.out.k hsz2 (by omega) HC).mono ?_
  rintro e W2 ⟨rfl, HW2, HG2, HB2⟩
  have S2 := Lib.hid (S1.out.next HG2 HW2)
  clear S1 HC hsz2 HG2 HB2
  have a0 := S2.out.a.c0; have a1 := S2.out.a.c1; have a2 := S2.out.b.c0; have a3 := S2.out.b.c1
  go_wp2_with fail
  clear a0 a1 a2 a3
  refine (wmul_any (w.heap.size + 1 + 1 + 1) _ b1 x x' r1 z1 c1 w W2 ht S2.out.s (by omega) HW2 E1 F1).mono ?_
  rintro e W3 ⟨rfl, HW3, HG3, HB3⟩
  have S3 := Lib.hid (S2.out.next HG3 HW3)
  clear S2 HW2 HG3 HB3
  have a0 := S3.out.a.c0; have a1 := S3.out.a.c1; have a2 := S3.out.b.c0; have a3 := S3.out.b.c1
  go_wp2_with fail
  clear a0 a1 a2 a3
  refine (wmul_any (w.heap.size + 1 + 1 + 1) b1 b2 y y' r2 z2 c2 w W3 ht S3.out.s (by omega) HW3 E2 F2).mono ?_
  rintro e W4 ⟨rfl, HW4, HG4, HB4⟩
  have S4 := Lib.hid (S3.out.next HG4 HW4)
  clear S3 HW3 HG4 HB4
  go_wp2_with fail
  refine (reduced_gr (w.heap.size + 1 + 1 + 1) b2 z1 z2 u v c _ w W4 ht S4.out.s (by omega) HW4 hr HT).mono ?_
  rintro e W5 ⟨rfl, HG5, HB5⟩
  have HF5 : Hid (FB W5 (w.heap.size + 1 + 1) ⟨#[]⟩ ⟨#[]⟩) := S4.out.r.kept HG5.out (by omega)
  have f0 := HF5.out.f0
  have f1 := HF5.out.f1
  have q0 := HF5.out.c0
  have q1 := HF5.out.c1
  go_wp2
  refine bodyPost_ret (results_row_tmp (p := 4) (u := 5) (by kernel_rfl) _ _ (w.heap.size + 1 + 1) _ _ rfl (HF5.out.put _ _)) rfl ?_
  exact ⟨rfl, HB5.put (by omega) _ _⟩

set_option maxHeartbeats 2000000 in
set_option maxRecDepth 100000 in
theorem fdiv_any (x y x' y' u v : ByteArray) (c : Int) (w : World) (ht : Hid (Tab w)) (hr : Hid (out (divO (frac x.data.toList y.data.toList) (frac x'.data.toList y'.data.toList)) = (u, v, c))) :
    Calls Tryz.prog 32 #[.agg #[.string x, .string y], .agg #[.string x', .string y']] w (RedPost w u v c) := by
  have S0 := OpSt.start w x y x' y' false
  have HC := Lib.hid (opRow_cells ((opW w x y x' y').alloc (.cells #[.bool false] 71)) x y x' y')
  have S1 := Lib.hid (S0.alloc (.cells #[.string x, .string y, .string x', .string y'] 26))
  have hsz : ((opW w x y x' y').alloc (.cells #[.bool false] 71)).heap.size = w.heap.size + 1 + 1 + 1 + 1 := by simp [opW]
  rw [hsz] at HC
  have hsz2 : Hid (w.heap.size + 1 + 1 + 1 + 1 ≠ w.heap.size + 1 + 1 + 1 ∧ w.heap.size + 1 + 1 + 1 + 1 < (((opW w x y x' y').alloc (.cells #[.bool false] 71)).alloc (.cells #[.string x, .string y, .string x', .string y'] 26)).heap.size) := by
    refine ⟨by omega, ?_⟩
    rw [World.size_alloc, hsz]; omega
  obtain ⟨r1, c1, h1⟩ := some_pair (mulS x.data.toList y'.data.toList)
  obtain ⟨r2, c2, h2⟩ := some_pair (mulS y.data.toList x'.data.toList)
  obtain ⟨z1, b1, e1⟩ : ∃ z1 b1, Did (chk false (pick2 x x') (pick2 y y') 2) r1 c1 z1 b1 := ⟨_, _, rfl, rfl⟩
  obtain ⟨z2, b2, e2⟩ : ∃ z2 b2, Did b1 r2 c2 z2 b2 := ⟨_, _, rfl, rfl⟩
  have HT : Hid (Told b2 z1 z2 (divO (frac x.data.toList y.data.toList) (frac x'.data.toList y'.data.toList))) :=
    prod_told (N := fun p q => p.num * q.den) (D := fun p q => (p.den : Int) * q.num) (fun p q => rfl) h1 h2 (fun p q px py qx qy pn pd qn qd => by rw [px, qy, py, qx]; exact ⟨mulS_res pn (den_lim qd), mulS_res (den_lim pd) qn⟩) e1 e2
  have E1 := Lib.hid e1
  have E2 := Lib.hid e2
  have F1 := Lib.hid (show Unless _ _ from fun _ => h1 : Unless (chk false (pick2 x x') (pick2 y y') 2) (mulS x.data.toList y'.data.toList = (r1.data.toList, c1)))
  have F2 := Lib.hid (show Unless _ _ from fun _ => h2 : Unless b1 (mulS y.data.toList x'.data.toList = (r2.data.toList, c2)))
  clear S0 hsz h1 h2 e1 e2
  have a0 := S1.out.a.c0; have a1 := S1.out.a.c1; have a2 := S1.out.b.c0; have a3 := S1.out.b.c1
  go_enter Tryz.func32, Tryz.ntmps32
  go_wp2_with fail
  clear a0 a1 a2 a3
  generalize ((opW w x y x' y').alloc (.cells #[.bool false] 71)).alloc (.cells #[.string x, .string y, .string x', .string y'] 26) = W1 at S1 HC hsz2 ⊢
  refine (check_any (w.heap.size + 1 + 1 + 1) (w.heap.size + 1 + 1 + 1 + 1) 2 false (pick2 x x') (pick2 y y') w W1 ht S1.out.s (by omega) S1.out.k hsz2 (by omega) HC).mono ?_
  rintro e W2 ⟨rfl, HW2, HG2, HB2⟩
  have S2 := Lib.hid (S1.out.next HG2 HW2)
  clear S1 HC hsz2 HG2 HB2
  have a0 := S2.out.a.c0; have a1 := S2.out.a.c1; have a2 := S2.out.b.c0; have a3 := S2.out.b.c1
  go_wp2_with fail
  clear a0 a1 a2 a3
  refine (wmul_any (w.heap.size + 1 + 1 + 1) _ b1 x y' r1 z1 c1 w W2 ht S2.out.s (by omega) HW2 E1 F1).mono ?_
  rintro e W3 ⟨rfl, HW3, HG3, HB3⟩
  have S3 := Lib.hid (S2.out.next HG3 HW3)
  clear S2 HW2 HG3 HB3
  have a0 := S3.out.a.c0; have a1 := S3.out.a.c1; have a2 := S3.out.b.c0; have a3 := S3.out.b.c1
  go_wp2_with fail
  clear a0 a1 a2 a3
  refine (wmul_any (w.heap.size + 1 + 1 + 1) b1 b2 y x' r2 z2 c2 w W3 ht S3.out.s (by omega) HW3 E2 F2).mono ?_
  rintro e W4 ⟨rfl, HW4, HG4, HB4⟩
  have S4 := Lib.hid (S3.out.next HG4 HW4)
  clear S3 HW3 HG4 HB4
  go_wp2_with fail
  refine (reduced_gr (w.heap.size + 1 + 1 + 1) b2 z1 z2 u v c _ w W4 ht S4.out.s (by omega) HW4 hr HT).mono ?_
  rintro e W5 ⟨rfl, HG5, HB5⟩
  have HF5 : Hid (FB W5 (w.heap.size + 1 + 1) ⟨#[]⟩ ⟨#[]⟩) := S4.out.r.kept HG5.out (by omega)
  have f0 := HF5.out.f0
  have f1 := HF5.out.f1
  have q0 := HF5.out.c0
  have q1 := HF5.out.c1
  go_wp2
  refine bodyPost_ret (results_row_tmp (p := 4) (u := 5) (by kernel_rfl) _ _ (w.heap.size + 1 + 1) _ _ rfl (HF5.out.put _ _)) rfl ?_
  exact ⟨rfl, HB5.put (by omega) _ _⟩

end Go.Proofs.Tryz
