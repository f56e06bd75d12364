/- Add and Sub of package rational. -/
import Derived.Test.YtjjmabokoendbaaGreatDoorFr3
import Derived.Deep.RegionHeld3
namespace Go.Proofs.Tryz
open Go.RowKit Go.Shelf Go.Proofs.Dt

theorem sum_told {f : Int → Int → Int} {opS : List UInt8 → List UInt8 → List UInt8 × Int} (hop : ∀ X Y : Int, X.natAbs < limit → Y.natAbs < limit → opS (str X) (str Y) = res (f X Y))
    {x y x' y' r1 r2 r3 r4 z1 z2 z3 z4 : ByteArray} {c1 c2 c3 c4 : Int} {b1 b2 b3 b4 : Bool}
    (h1 : mulS x.data.toList y'.data.toList = (r1.data.toList, c1)) (h2 : mulS x'.data.toList y.data.toList = (r2.data.toList, c2)) (h3 : opS z1.data.toList z2.data.toList = (r3.data.toList, c3)) (h4 : mulS y.data.toList y'.data.toList = (r4.data.toList, c4))
    (e1 : Did (chk false (pick2 x x') (pick2 y y') 2) r1 c1 z1 b1) (e2 : Did b1 r2 c2 z2 b2) (e3 : Did b2 r3 c3 z3 b3) (e4 : Did b3 r4 c4 z4 b4) : Told b4 z3 z4 (lift2 (sumR f) (frac x.data.toList y.data.toList) (frac x'.data.toList y'.data.toList)) := by
  have hc : chk false (pick2 x x') (pick2 y y') 2 = (!validR x.data.toList y.data.toList || !validR x'.data.toList y'.data.toList) := rfl
  rw [hc] at e1
  cases hv1 : validR x.data.toList y.data.toList
  · rw [hv1] at e1
    obtain ⟨rfl, rfl⟩ := e1
    obtain ⟨rfl, rfl⟩ := e2
    obtain ⟨rfl, rfl⟩ := e3
    obtain ⟨rfl, rfl⟩ := e4
    rw [frac_no hv1, lift2_none_left]; exact Told.none _ _
  · cases hv2 : validR x'.data.toList y'.data.toList
    · rw [hv1, hv2] at e1
      obtain ⟨rfl, rfl⟩ := e1
      obtain ⟨rfl, rfl⟩ := e2
      obtain ⟨rfl, rfl⟩ := e3
      obtain ⟨rfl, rfl⟩ := e4
      rw [frac_no hv2, lift2_none_right]; exact Told.none _ _
    · rw [hv1, hv2] at e1
      obtain ⟨p, hp, px, py, pn, pd⟩ := frac_yes hv1
      obtain ⟨q, hq, qx, qy, qn, qd⟩ := frac_yes hv2
      rw [hp, hq]
      rw [px, qy, mulS_res pn (den_lim qd)] at h1
      rw [qx, py, mulS_res qn (den_lim pd)] at h2
      rw [py, qy, mulS_res (den_lim pd) (den_lim qd)] at h4
      show Told _ _ _ (sumR f p q)
      unfold sumR
      cases o1 : ok (p.num * q.den)
      · rw [no_res o1] at h1
        obtain ⟨_, rfl⟩ := Prod.mk.inj h1
        obtain ⟨rfl, rfl⟩ := e1
        obtain ⟨rfl, rfl⟩ := e2
        obtain ⟨rfl, rfl⟩ := e3
        obtain ⟨rfl, rfl⟩ := e4
        exact Told.none _ _
      · rw [ok_res o1] at h1
        obtain ⟨k1, rfl⟩ := Prod.mk.inj h1
        obtain ⟨rfl, rfl⟩ := e1
        cases o2 : ok (q.num * p.den)
        · rw [no_res o2] at h2
          obtain ⟨_, rfl⟩ := Prod.mk.inj h2
          obtain ⟨rfl, rfl⟩ := e2
          obtain ⟨rfl, rfl⟩ := e3
          obtain ⟨rfl, rfl⟩ := e4
          exact Told.none _ _
        · rw [ok_res o2] at h2
          obtain ⟨k2, rfl⟩ := Prod.mk.inj h2
          obtain ⟨rfl, rfl⟩ := e2
          have h3' : opS (str (p.num * q.den)) (str (q.num * p.den)) = (r3.data.toList, c3) := by rw [k1, k2]; exact h3
          rw [hop _ _ (ok_lt o1) (ok_lt o2)] at h3'
          cases o3 : ok (f (p.num * q.den) (q.num * p.den))
          · rw [no_res o3] at h3'
            obtain ⟨_, rfl⟩ := Prod.mk.inj h3'
            obtain ⟨rfl, rfl⟩ := e3
            obtain ⟨rfl, rfl⟩ := e4
            exact Told.none _ _
          · rw [ok_res o3] at h3'
            obtain ⟨k3, rfl⟩ := Prod.mk.inj h3'
            obtain ⟨rfl, rfl⟩ := e3
            cases o4 : ok (p.den * q.den : Int)
            · rw [no_res o4] at h4
              obtain ⟨_, rfl⟩ := Prod.mk.inj h4
              obtain ⟨rfl, rfl⟩ := e4
              exact Told.none _ _
            · rw [ok_res o4] at h4
              obtain ⟨k4, rfl⟩ := Prod.mk.inj h4
              obtain ⟨rfl, rfl⟩ := e4
              obtain ⟨v1, n1⟩ := list_inj k3
              obtain ⟨v2, n2⟩ := list_inj k4
              show valid _ = true ∧ valid _ = true ∧ _ = makeR _ _
              exact ⟨v1.trans (valid_ok o3), v2.trans (valid_ok o4), by rw [show num _ = _ from n1, show num _ = _ from n2]; rfl⟩

theorem OpSt.all {w W : World} {x y x' y' : ByteArray} {bad : Bool} (h : OpSt w W x y x' y' bad) : W.cell? ⟨w.heap.size, 0, none⟩ = some (.string x) ∧ W.cell? ⟨w.heap.size, 1, none⟩ = some (.string y) ∧ W.cell? ⟨w.heap.size + 1, 0, none⟩ = some (.string x') ∧ W.cell? ⟨w.heap.size + 1, 1, none⟩ = some (.string y') :=
  ⟨h.a.c0, h.a.c1, h.b.c0, h.b.c1⟩

set_option maxHeartbeats 2000000 in
set_option maxRecDepth 100000 in
theorem sum_any (g : Nat) (f : Int → Int → Int) (opS : List UInt8 → List UInt8 → List UInt8 × Int) (x y x' y' u v : ByteArray) (c : Int) (w : World) (ht : Hid (Tab w)) (hop : Hid (∀ X Y : Int, X.natAbs < limit → Y.natAbs < limit → opS (str X) (str Y) = res (f X Y)))
    (eg : Hid (∀ args w, (callFunc g args).run Tryz.prog w = .ok (.enter g args) w)) (hcall : Hid (∀ (s t : ByteArray) (W : World), Since w W → Calls Tryz.prog g #[.string s, .string t] W (OpPost W (opS s.data.toList t.data.toList))))
    (hr : Hid (out (lift2 (sumR f) (frac x.data.toList y.data.toList) (frac x'.data.toList y'.data.toList)) = (u, v, c))) :
    Calls Tryz.prog 49 #[.func (.func g) #[] #[], .agg #[.string x, .string y], .agg #[.string x', .string y']] w (RedPost w u v c) := by
  have S0 := OpSt.start w x y x' y' false
  have HC := Lib.hid (opRow_cells ((opW w x y x' y').alloc (.cells #[.bool false] 71)) x y x' y')
  have S1 := Lib.hid (S0.alloc (.cells #[.string x, .string y, .string x', .string y'] 26))
  have hsz : ((opW w x y x' y').alloc (.cells #[.bool false] 71)).heap.size = w.heap.size + 1 + 1 + 1 + 1 := by simp [opW]
  rw [hsz] at HC
  have hsz2 : Hid (w.heap.size + 1 + 1 + 1 + 1 ≠ w.heap.size + 1 + 1 + 1 ∧ w.heap.size + 1 + 1 + 1 + 1 < (((opW w x y x' y').alloc (.cells #[.bool false] 71)).alloc (.cells #[.string x, .string y, .string x', .string y'] 26)).heap.size) := by
    refine ⟨by omega, ?_⟩
    rw [World.size_alloc, hsz]; omega
  obtain ⟨r1, c1, h1⟩ := some_pair (mulS x.data.toList y'.data.toList)
  obtain ⟨r2, c2, h2⟩ := some_pair (mulS x'.data.toList y.data.toList)
  obtain ⟨r4, c4, h4⟩ := some_pair (mulS y.data.toList y'.data.toList)
  obtain ⟨z1, b1, e1⟩ : ∃ z1 b1, Did (chk false (pick2 x x') (pick2 y y') 2) r1 c1 z1 b1 := ⟨_, _, rfl, rfl⟩
  obtain ⟨z2, b2, e2⟩ : ∃ z2 b2, Did b1 r2 c2 z2 b2 := ⟨_, _, rfl, rfl⟩
  obtain ⟨r3, c3, h3⟩ := some_pair (opS z1.data.toList z2.data.toList)
  obtain ⟨z3, b3, e3⟩ : ∃ z3 b3, Did b2 r3 c3 z3 b3 := ⟨_, _, rfl, rfl⟩
  obtain ⟨z4, b4, e4⟩ : ∃ z4 b4, Did b3 r4 c4 z4 b4 := ⟨_, _, rfl, rfl⟩
  have HT : Hid (Told b4 z3 z4 (lift2 (sumR f) (frac x.data.toList y.data.toList) (frac x'.data.toList y'.data.toList))) := sum_told hop.out h1 h2 h3 h4 e1 e2 e3 e4
  have E1 := Lib.hid e1
  have E2 := Lib.hid e2
  have E3 := Lib.hid e3
  have E4 := Lib.hid e4
  have F1 := Lib.hid (show Unless _ _ from fun _ => h1 : Unless (chk false (pick2 x x') (pick2 y y') 2) (mulS x.data.toList y'.data.toList = (r1.data.toList, c1)))
  have F2 := Lib.hid (show Unless _ _ from fun _ => h2 : Unless b1 (mulS x'.data.toList y.data.toList = (r2.data.toList, c2)))
  have F4 := Lib.hid (show Unless _ _ from fun _ => h4 : Unless b3 (mulS y.data.toList y'.data.toList = (r4.data.toList, c4)))
  have HO : Hid (∀ W, Since w W → Unless b2 (Calls Tryz.prog g #[.string z1, .string z2] W fun e w' => e = .returned (.tuple #[.string r3, .int .i64 c3]) ∧ Below W.heap.size W w')) := fun W hW _ => op_of (hcall.out z1 z2 W hW) h3
  clear S0 hsz h1 h2 h3 h4 e1 e2 e3 e4 hop hcall
  have mixed : Tryz.prog.follows .mixedOrders = true := by kernel_rfl
  have a0 := S1.out.a.c0; have a1 := S1.out.a.c1; have a2 := S1.out.b.c0; have a3 := S1.out.b.c1
  go_enter Tryz.func49, Tryz.ntmps49
  go_wp2_with fail
  clear a0 a1 a2 a3
  generalize ((opW w x y x' y').alloc (.cells #[.bool false] 71)).alloc (.cells #[.string x, .string y, .string x', .string y'] 26) = W1 at S1 HC hsz2 ⊢
  refine (check_any (w.heap.size + 1 + 1 + 1) (w.heap.size + 1 + 1 + 1 + 1) 2 false (pick2 x x') (pick2 y y') w W1 ht S1.out.s (by omega) S1.out.k hsz2 (by omega) HC).mono ?_
  rintro e W2 ⟨rfl, HW2, HG2, HB2⟩
  have S2' := S1.out.next HG2 HW2
  have S2 := Lib.hid (S2'.after (W' := W2.drew) ⟨rfl, rfl, rfl, Nat.le_refl _, fun _ _ => rfl⟩)
  clear S1 HC hsz2 HG2 HB2 S2' HW2
  go_wp2_with fail
  go_region_held3 (fun W' => W'.cell? ⟨w.heap.size, 0, none⟩ = some (.string x) ∧ W'.cell? ⟨w.heap.size, 1, none⟩ = some (.string y) ∧ W'.cell? ⟨w.heap.size + 1, 0, none⟩ = some (.string x') ∧ W'.cell? ⟨w.heap.size + 1, 1, none⟩ = some (.string y'))
    (first | exact S2.out.all | exact S3.out.all | exact S4.out.all | exact S5.out.all)
    (first
      | (go_at_call 81; refine (do_any g (w.heap.size + 1 + 1 + 1) b2 b3 z1 z2 r3 z3 c3 w W4 eg.out S4.out.s (by omega) S4.out.k E3 (HO.out W4 S4.out.s)).mono ?_; rintro e W5 ⟨rfl, HW5, HG5, HB5⟩; have S5 := Lib.hid (S4.out.next HG5 HW5))
      | (go_at_call 53; refine (wmul_any (w.heap.size + 1 + 1 + 1) b1 b2 x' y r2 z2 c2 w W3 ht S3.out.s (by omega) S3.out.k E2 F2).mono ?_; rintro e W4 ⟨rfl, HW4, HG4, HB4⟩; have S4 := Lib.hid (S3.out.next HG4 HW4))
      | (go_at_call 53; refine (wmul_any (w.heap.size + 1 + 1 + 1) _ b1 x y' r1 z1 c1 w W2.drew ht S2.out.s (by omega) S2.out.k E1 F1).mono ?_; rintro e W3 ⟨rfl, HW3, HG3, HB3⟩; have S3 := Lib.hid (S2.out.next HG3 HW3)))
  have a0 := S5.out.a.c0; have a1 := S5.out.a.c1; have a2 := S5.out.b.c0; have a3 := S5.out.b.c1
  go_wp2_with fail
  clear a0 a1 a2 a3
  refine (wmul_any (w.heap.size + 1 + 1 + 1) b3 b4 y y' r4 z4 c4 w W5 ht S5.out.s (by omega) S5.out.k E4 F4).mono ?_
  rintro e W6 ⟨rfl, HW6, HG6, HB6⟩
  have S6 := Lib.hid (S5.out.next HG6 HW6)
  go_wp2_with fail
  refine (reduced_gr (w.heap.size + 1 + 1 + 1) b4 z3 z4 u v c _ w W6 ht S6.out.s (by omega) HW6 hr HT).mono ?_
  rintro e W7 ⟨rfl, HG7, HB7⟩
  have HF7 : Hid (FB W7 (w.heap.size + 1 + 1) ⟨#[]⟩ ⟨#[]⟩) := S6.out.r.kept HG7.out (by omega)
  have f0 := HF7.out.f0
  have f1 := HF7.out.f1
  have q0 := HF7.out.c0
  have q1 := HF7.out.c1
  go_wp2
  refine bodyPost_ret (results_row_tmp (p := 6) (u := 7) (by kernel_rfl) _ _ (w.heap.size + 1 + 1) _ _ rfl (HF7.out.put _ _)) rfl ?_
  exact ⟨rfl, HB7.put (by omega) _ _⟩

set_option maxHeartbeats 1000000 in
set_option maxRecDepth 100000 in
theorem fadd_any (x y x' y' u v : ByteArray) (c : Int) (w : World) (ht : Hid (Tab w)) (hr : Hid (out (addO (frac x.data.toList y.data.toList) (frac x'.data.toList y'.data.toList)) = (u, v, c))) :
    Calls Tryz.prog 17 #[.agg #[.string x, .string y], .agg #[.string x', .string y']] w (RedPost w u v c) := by
  obtain ⟨ha, hb, hk, hs⟩ := opW_facts w x y x' y'
  unfold opW at ha hb hk hs
  have HA := Lib.hid ha
  have HB := Lib.hid hb
  have HR := Lib.hid hk
  have HS := Lib.hid hs
  clear ha hb hk hs
  have a0 := HA.out.c0; have a1 := HA.out.c1; have a2 := HB.out.c0; have a3 := HB.out.c1
  go_enter Tryz.func17, Tryz.ntmps17
  go_wp2_with fail
  clear a0 a1 a2 a3
  generalize ((w.alloc (.cells #[.string x, .string y] 26)).alloc (.cells #[.string x', .string y'] 26)).alloc (.cells #[.string ⟨#[]⟩, .string ⟨#[]⟩] 26) = W1 at HA HB HR HS ⊢
  refine (sum_any 51 (· + ·) addS x y x' y' u v c W1 (HS.tab ht) (fun X Y hX hY => by unfold addS; rw [bin_str _ hX hY]) (enters_of Tryz.func51 (by kernel_rfl) rfl) (fun s t W hW => add_any s t W (hW.tab (HS.tab ht))) hr).mono ?_
  rintro e W2 ⟨rfl, hb2⟩
  have HF : Hid (FB W2 (w.heap.size + 1 + 1) ⟨#[]⟩ ⟨#[]⟩) := HR.out.below hb2.out HR.out.lt
  have HB2 : Since w W2 := HS.next hb2.out
  have f0 := HF.out.f0
  have f1 := HF.out.f1
  have q0 := HF.out.c0
  have q1 := HF.out.c1
  go_wp2
  refine bodyPost_ret (results_row_tmp (p := 4) (u := 5) (by kernel_rfl) _ _ (w.heap.size + 1 + 1) _ _ rfl (HF.out.put _ _)) rfl ?_
  exact ⟨rfl, HB2.put (by omega) _ _⟩

set_option maxHeartbeats 1000000 in
set_option maxRecDepth 100000 in
theorem fsub_any (x y x' y' u v : ByteArray) (c : Int) (w : World) (ht : Hid (Tab w)) (hr : Hid (out (subO (frac x.data.toList y.data.toList) (frac x'.data.toList y'.data.toList)) = (u, v, c))) :
    Calls Tryz.prog 15 #[.agg #[.string x, .string y], .agg #[.string x', .string y']] w (RedPost w u v c) := by
  obtain ⟨ha, hb, hk, hs⟩ := opW_facts w x y x' y'
  unfold opW at ha hb hk hs
  have HA := Lib.hid ha
  have HB := Lib.hid hb
  have HR := Lib.hid hk
  have HS := Lib.hid hs
  clear ha hb hk hs
  have a0 := HA.out.c0; have a1 := HA.out.c1; have a2 := HB.out.c0; have a3 := HB.out.c1
  go_enter Tryz.func15, Tryz.ntmps15
  go_wp2_with fail
  clear a0 a1 a2 a3
  generalize ((w.alloc (.cells #[.string x, .string y] 26)).alloc (.cells #[.string x', .string y'] 26)).alloc (.cells #[.string ⟨#[]⟩, .string ⟨#[]⟩] 26) = W1 at HA HB HR HS ⊢
  refine (sum_any 50 (· - ·) subS x y x' y' u v c W1 (HS.tab ht) (fun X Y hX hY => by unfold subS; rw [bin_str _ hX hY]) (enters_of Tryz.func50 (by kernel_rfl) rfl) (fun s t W hW => sub_any s t W (hW.tab (HS.tab ht))) hr).mono ?_
  rintro e W2 ⟨rfl, hb2⟩
  have HF : Hid (FB W2 (w.heap.size + 1 + 1) ⟨#[]⟩ ⟨#[]⟩) := HR.out.below hb2.out HR.out.lt
  have HB2 : Since w W2 := HS.next hb2.out
  have f0 := HF.out.f0
  have f1 := HF.out.f1
  have q0 := HF.out.c0
  have q1 := HF.out.c1
  go_wp2
  refine bodyPost_ret (results_row_tmp (p := 4) (u := 5) (by kernel_rfl) _ _ (w.heap.size + 1 + 1) _ _ rfl (HF.out.put _ _)) rfl ?_
  exact ⟨rfl, HB2.put (by omega) _ _⟩

end Go.Proofs.Tryz
