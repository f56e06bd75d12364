/- 'text', the walk. -/
import Derived.Test.YtdjnkaeggnkgeaaGreatDoorText
import Derived.Laws.EntriesVeiled
import Derived.Lib.AppendIntMem
namespace Go.Proofs.Tryz
open Go.RowKit Go.Shelf Go.Proofs.Dt
open Go.Lib (decDigits byteCells)

attribute [local go_sem] Oper.semAt_some

theorem bytes_ext {a b : ByteArray} (h : a.data.toList = b.data.toList) : a = b := by
  cases a; cases b
  exact congrArg ByteArray.mk (Array.toList_inj.1 h)

set_option maxRecDepth 100000 in
set_option maxHeartbeats 4000000 in
theorem text_in (F : Fence) (n : Nat) (hf0 : F.fn 40) (hf1 : F.fn 60) (hf2 : F.fn 78) (hf3 : F.fn 58) (hf4 : F.fn 61) (hf5 : F.fn 62) (hf6 : F.fn 63) (hro : F.round = none) (hn : 3 ≤ n)
    (hIt : ∀ (k : Nat) (g : Int) (W : World), 0 ≤ g → g ≤ 9999 → Tab W → CallsIn F k Tryz.prog 58 #[.int .i64 g] W fun e w' => e = .returned (.string ⟨(decDigits g.toNat).toArray⟩) ∧ Below W.heap.size W w')
    (hRe : ∀ (k c : Nat) (W : World), c ≤ 3 → CallsIn F k Tryz.prog 61 #[.string ⟨#[48]⟩, .int .i64 (c : Int)] W fun e w' => e = .returned (.string ⟨(List.replicate c (48 : UInt8)).toArray⟩) ∧ Below W.heap.size W w')
    (hWr : ∀ (k B b : Nat) (bs : List Value) (s : ByteArray) (W : World), Holds B b bs W → bs.length + s.size ≤ 140737488355328 → B ≤ W.heap.size → CallsIn F k Tryz.prog 62 #[.pointer (some ⟨b, 0, none⟩), .string s] W fun e w' => e = .returned (.tuple #[.int .i64 s.size, .nilIface]) ∧ (Holds B b (bs ++ Lib.strCells s) w' ∧ Below B W w' ∧ Lib.OthersKept 5 (some b) W w'))
    (hSt : ∀ (k B b : Nat) (l : List UInt8) (W : World), Holds B b (byteCells l) W → l ≠ [] → CallsIn F k Tryz.prog 63 #[.pointer (some ⟨b, 0, none⟩)] W fun e w' => e = .returned (.string ⟨l.toArray⟩) ∧ (Holds B b (byteCells l) w' ∧ Below B W w' ∧ Lib.OthersKept 5 (some b) W w'))
    (neg : Bool) (v : Value) (a : Nat) (w : World) (ha : Num w v a) (h0 : a ≠ 0) (fa : Lim 400 a) (ht : Tab w) :
    CallsIn F n Tryz.prog 40 #[.agg #[.bool neg, v]] w fun e w' => e = .returned (.tuple #[.string ⟨(textS neg a).1.toArray⟩, .int .i64 (textS neg a).2]) ∧ Below w.heap.size w w' := by
  obtain ⟨xs, ix, rx⟩ := ha
  have lx : xs.length ≤ 400 := Lim.length rx fa
  have l0 : 0 < xs.length := List.length_pos_iff.2 (fun e => h0 ((rx.pos (by decide)).1 e))
  obtain ⟨ax, cx, rfl⟩ := ix.shape
  have h1 : 1 ≤ n := by omega
  have h11 : 1 ≤ n - 1 - 1 := by omega
  have HH := Lib.hid h0
  have HT := Lib.hid ht
  have HRX := Lib.hid rx
  have HIX := Lib.hid ix
  clear fa h0 ht rx ix
  refine callsIn_of_wp_marks Tryz.func40 rfl hf0 ?_ hro
  simp only [Tryz.ntmps40, List.size_toArray, List.length_cons, List.length_nil, Nat.reduceAdd, Nat.reduceSub, Array.replicate_succ, Array.replicate_zero, List.push_toArray, List.append_toArray, List.nil_append, List.cons_append]
  gi_wp2_with (gi_at_call 60; go_must (refine (back_in F (n - 1) hf1 hro _ _ _ _).mono ?_); rintro e w' ⟨rfl, rfl⟩)
  obtain ⟨W0, hW0⟩ : ∃ W0, W0 = (((w.alloc (.cells #[.bool neg, .slice ax xs.length cx] 50)).alloc (.cells #[.pointer none, .slice none 0 0] 76)).alloc (.cells #[.slice ax xs.length cx] 48)) := ⟨_, rfl⟩
  have hT0 : TInv w xs neg (.slice ax xs.length cx) [] W0 := by rw [hW0]; exact TInv.start w xs neg _
  have s0 : W0.heap.size = w.heap.size + 3 := by rw [hW0]; simp
  rw [← hW0]
  clear hW0
  refine wpIn_rangeFunc_ownG hro h1 (gf := 78) (lb := #[.pointer (some ⟨w.heap.size + 1 + 1, 0, none⟩)]) rfl hf2 (enters_of Tryz.func78 (by kernel_rfl) rfl)
    (back_stops F (n - 1) hf2 hro (by omega) (w.heap.size + 1 + 1) w.heap.size _ xs (by omega) W0 (by omega) hT0.bs.cell w (Nat.le_refl _) hT0.below HIX.out) keepsBox_t (keepsBox_b (by omega) (by omega)) (Below.refl _ _) (fun _ => rfl)
    (fun pre W => TInv w xs neg (.slice ax xs.length cx) pre W) (fun _ _ _ => False) (TInv.own (by omega)) (fun _ _ _ _ _ hs _ _ => hs) hT0
    (fun x => { tmps := #[.agg #[.bool neg, .slice ax xs.length cx], .pointer (some ⟨w.heap.size, 0, none⟩), .string ⟨#[]⟩, .int .i64 0, .pointer (some ⟨w.heap.size + 1, 0, none⟩), .int .i64 (x.val : Int), .int .i64 (grp xs x), undef, undef, .pointer (some ⟨w.heap.size, 1, none⟩), .slice ax xs.length cx, .int .i64 xs.length, .bool false, .pointer (some ⟨w.heap.size, 1, none⟩), .slice ax xs.length cx, .func (.func 78) #[] #[.pointer (some ⟨w.heap.size + 1 + 1, 0, none⟩)], .int .i64 (x.val : Int), .int .i64 (grp xs x), undef, undef, undef, undef, undef, undef, undef, undef, undef, undef, undef, undef, undef, undef, undef, undef, undef, undef, undef, undef, undef, undef, undef, undef, undef], defers := [] }) ?assign ?body ?done ?stop
  case assign =>
    intro l x W K hK
    gi_wp2
    exact hK
  case body =>
    rintro l pre x W hI hlt
    have hg0 := HRX.out.good _ (List.getElem_mem x.isLt)
    have hg : 0 ≤ grp xs x ∧ grp xs x ≤ 9999 := ⟨hg0.1, by have := hg0.2; show xs[x.val] ≤ 9999; omega⟩
    have hIT : Hid (∀ k, CallsIn F k Tryz.prog 58 #[.int .i64 (grp xs x)] W fun e w' => e = .returned (.string ⟨(decDigits (grp xs x).toNat).toArray⟩) ∧ Below W.heap.size W w') := fun k => hIt k _ W hg.1 hg.2 (HT.out.below hI.below)
    have hdl : (decDigits (grp xs x).toNat).length ≤ 4 := (decDigits_length_le _ 4 (by decide)).2 (by show (grp xs x).toNat < 10000; omega)
    have hd1 : 1 ≤ (decDigits (grp xs x).toNat).length := List.length_pos_iff.2 (decDigits_ne _)
    obtain ⟨s, hs⟩ : ∃ s : ByteArray, s = ⟨(decDigits (grp xs x).toNat).toArray⟩ := ⟨_, rfl⟩
    rw [← hs] at hIT
    have hsd : s.data.toList = decDigits (grp xs x).toNat := by rw [hs]
    have hss : s.size = (decDigits (grp xs x).toNat).length := by rw [Lib.size_eq, hsd]
    rw [← hss] at hdl hd1
    have hc : (4 : Int) - (s.size : Int) = ((4 - s.size : Nat) : Int) := by omega
    obtain ⟨c, hcd⟩ : ∃ c, c = 4 - s.size := ⟨_, rfl⟩
    rw [← hcd] at hc
    have hc3 : c ≤ 3 := by omega
    have hpl : (pieces xs pre).length ≤ 4 * pre.length := pieces_length HRX.out.good pre
    have HSD := Lib.hid hsd
    have HSS := Lib.hid hss
    have HCD := Lib.hid hcd
    have HI := Lib.hid hI
    have hsz := hI.size
    have hxl := x.isLt
    clear hs hsd hss hcd hI hg hg0
    by_cases hx : (x.val : Int) < (xs.length : Int) - 1
    · gi_wp2_with (first
        | (gi_at_call 58; go_must (refine (CallsIn.inRound l (hIT.out _)).mono ?_); rintro e w1 ⟨rfl, hb1⟩; have k1 := (hb1.block w.heap.size (by omega)).trans HI.out.k0; have hc1 : w1.cell? ⟨w.heap.size, 1, none⟩ = some (.slice ax xs.length cx) := (by rw [Lib.cell_of_heap k1]; rfl))
        | (gi_at_call 61; go_must (refine (CallsIn.inRound l (hRe _ c _ hc3)).mono ?_); rintro e w2 ⟨rfl, hb2⟩))
      have hb12 := hb1.trans (hb2.mono hb1.size)
      have s12 := hb12.size
      have hsl : (({ data := Array.replicate c 48 } : ByteArray) ++ s).data.toList = List.replicate c 48 ++ s.data.toList := by
        rw [ByteArray.data_append, Array.toList_append, Array.toList_replicate]
      have hsz2 : (({ data := Array.replicate c 48 } : ByteArray) ++ s).size = c + s.size := by rw [Lib.size_eq, hsl, List.length_append, List.length_replicate, ← Lib.size_eq]
      refine (CallsIn.inRound l (hWr _ w.heap.size (w.heap.size + 1) _ _ _ (holds_below HI.out.hold hb12) (by rw [Lib.byteCells_length, hsz2]; omega) (by omega))).mono ?_
      rintro e w3 ⟨rfl, g1, g2, g3⟩
      have hp : (({ data := Array.replicate c 48 } : ByteArray) ++ s).data.toList = piece xs x := by
        rw [hsl, HSD.out]; unfold piece pad4; rw [if_pos (by omega), HCD.out, HSS.out]
      gi_wp2
      exact TInv.next _ HI.out hb12 hp g1 g2 g3
    · gi_wp2_with (gi_at_call 58; go_must (refine (CallsIn.inRound l (hIT.out _)).mono ?_); rintro e w1 ⟨rfl, hb1⟩; have k1 := (hb1.block w.heap.size (by omega)).trans HI.out.k0; have hc1 : w1.cell? ⟨w.heap.size, 1, none⟩ = some (.slice ax xs.length cx) := (by rw [Lib.cell_of_heap k1]; rfl))
      have s1 := hb1.size
      refine (CallsIn.inRound l (hWr _ w.heap.size (w.heap.size + 1) _ _ _ (holds_below HI.out.hold hb1) (by rw [Lib.byteCells_length]; omega) (by omega))).mono ?_
      rintro e w3 ⟨rfl, g1, g2, g3⟩
      have hp : s.data.toList = piece xs x := by
        rw [HSD.out]; unfold piece; rw [if_neg (by omega)]
      gi_wp2
      exact TInv.next _ HI.out hb1 hp g1 g2 g3
  case done =>
    rintro D zs W hD hzs hI hK
    have hp := pieces_all HRX.out HH.out hzs
    have hold := hI.hold
    rw [hp] at hold
    obtain ⟨s, hs⟩ : ∃ s : ByteArray, s = ⟨(decDigits a).toArray⟩ := ⟨_, rfl⟩
    have hsd : s.data.toList = decDigits a := by rw [hs]
    have hss : s.size = (decDigits a).length := by rw [Lib.size_eq, hsd]
    have hS : Hid (∀ k, CallsIn F k Tryz.prog 63 #[.pointer (some ⟨w.heap.size + 1, 0, none⟩)] W fun e w' => e = .returned (.string s) ∧ Below w.heap.size w w' ∧ w'.heap[D]? = some (.deferred (some [])) ∧ w'.cell? ⟨w.heap.size, 0, none⟩ = some (.bool neg)) := by
      intro k
      refine (hSt k w.heap.size (w.heap.size + 1) (decDigits a) W hold (decDigits_ne _)).mono ?_
      rintro e w' ⟨he, _, h2, h3⟩
      refine ⟨by rw [he, hs], hI.below.trans h2, h3 _ _ hK (fun e => by cases e; have := hI.size; omega) (fun c fz e => by cases e), ?_⟩
      have k3 := h3 _ _ hI.k0 (by simp) (fun c fz e => by cases e)
      rw [Lib.cell_of_heap k3]; rfl
    have HSD := Lib.hid hsd
    have HSS := Lib.hid hss
    have hsz := hI.size
    clear hs hsd hss hI hold hp hzs hK hT0
    have T0 : Hid (textS neg a = if 200 < (decDigits a).length then ([], 30) else (if neg then 45 :: decDigits a else decDigits a, 0)) := by
      show _ = _
      unfold textS; rw [if_neg HH.out]
    by_cases h2 : 200 < (s.size : Int)
    · have hT : Hid (textS neg a = ([], 30)) := by show _ = _; rw [T0.out, if_pos (by have := HSS.out; omega)]
      gi_wp2_with (gi_at_call 63; go_must (refine (hS.out _).mono ?_); rintro e w5 ⟨rfl, g1, g2, g3⟩)
      refine ⟨by simp, .inl ⟨_, _, rfl, run_takeDeferred g2, ?_⟩⟩
      refine ⟨_, results_tmp2 rfl _ _ _, ?_⟩
      exact ⟨by rw [hT.out]; rfl, g1.trans ⟨rfl, rfl, rfl, by simp [World.putObj], fun k hk => World.putObj_heap_other (by omega)⟩⟩
    · have hlen : ¬ 200 < (decDigits a).length := by have := HSS.out; omega
      cases neg with
      | true =>
        have hT : Hid (textS true a = (45 :: decDigits a, 0)) := by show _ = _; rw [T0.out, if_neg hlen, if_pos rfl]
        have hcat : Hid ((⟨#[45]⟩ : ByteArray) ++ s = ⟨(45 :: decDigits a).toArray⟩) := bytes_ext (by rw [ByteArray.data_append, Array.toList_append, HSD.out]; rfl)
        gi_wp2_with (gi_at_call 63; go_must (refine (hS.out _).mono ?_); rintro e w5 ⟨rfl, g1, g2, g3⟩)
        refine ⟨by simp, .inl ⟨_, _, rfl, run_takeDeferred g2, ?_⟩⟩
        refine ⟨_, results_tmp2 rfl _ _ _, ?_⟩
        exact ⟨by rw [hT.out]; exact congrArg (fun b => Ending.returned (.tuple #[.string b, .int .i64 0])) hcat.out, g1.trans ⟨rfl, rfl, rfl, by simp [World.putObj], fun k hk => World.putObj_heap_other (by omega)⟩⟩
      | false =>
        have hT : Hid (textS false a = (decDigits a, 0)) := by show _ = _; rw [T0.out, if_neg hlen, if_neg (by decide)]
        have hcat : Hid (s = ⟨(decDigits a).toArray⟩) := bytes_ext (by rw [HSD.out])
        gi_wp2_with (gi_at_call 63; go_must (refine (hS.out _).mono ?_); rintro e w5 ⟨rfl, g1, g2, g3⟩)
        refine ⟨by simp, .inl ⟨_, _, rfl, run_takeDeferred g2, ?_⟩⟩
        refine ⟨_, results_tmp2 rfl _ _ _, ?_⟩
        exact ⟨by rw [hT.out]; exact congrArg (fun b => Ending.returned (.tuple #[.string b, .int .i64 0])) hcat.out, g1.trans ⟨rfl, rfl, rfl, by simp [World.putObj], fun k hk => World.putObj_heap_other (by omega)⟩⟩
  case stop =>
    rintro D c pre W _ _ h _
    exact h.elim

theorem itoa_small (g : Int) (W : World) (h0 : 0 ≤ g) (h1 : g ≤ 9999) (ht : Tab W) : Calls Tryz.prog 58 #[.int .i64 g] W fun e w' => e = .returned (.string ⟨(decDigits g.toNat).toArray⟩) ∧ Below W.heap.size W w' := by
  refine (Tryz.strconv_Itoa g (by omega) (by omega) W ht).mono ?_
  rintro e w' ⟨rfl, k, os, rfl⟩
  refine ⟨?_, Lib.below_grow _ _ (Nat.le_refl _) _ _⟩
  have : Lib.itoa g = decDigits g.toNat := str_nonneg h0
  rw [this]

theorem repeat_zero (c : Nat) (W : World) (hc : c ≤ 3) : Calls Tryz.prog 61 #[.string ⟨#[48]⟩, .int .i64 (c : Int)] W fun e w' => e = .returned (.string ⟨(List.replicate c (48 : UInt8)).toArray⟩) ∧ Below W.heap.size W w' := by
  refine (Tryz.strings_Repeat ⟨#[48]⟩ c W (by omega) (by show 1 * c ≤ _; omega)).mono ?_
  rintro e w' ⟨rfl, hb⟩
  refine ⟨?_, hb⟩
  have : ∀ c, Lib.repeatL [48] c = List.replicate c (48 : UInt8) := by
    intro c
    induction c with
    | zero => rfl
    | succ c ih => rw [Lib.repeatL, ih]; rfl
  rw [this]

/-- 'text'. -/
theorem text_any (neg : Bool) (v : Value) (a : Nat) (w : World) (ha : Num w v a) (fa : Lim 400 a) (ht : Tab w) :
    Calls Tryz.prog 40 #[.agg #[.bool neg, v]] w fun e w' => e = .returned (.tuple #[.string ⟨(textS neg a).1.toArray⟩, .int .i64 (textS neg a).2]) ∧ Below w.heap.size w w' := by
  by_cases h0 : a = 0
  · subst h0
    obtain ⟨xs, ix, rx⟩ := ha
    obtain rfl : xs = [] := (rx.pos (by decide)).2 rfl
    obtain ⟨ax, cx, rfl⟩ := ix.shape
    have hT : Hid (textS neg 0 = ([48], 0)) := rfl
    clear rx ix fa ht
    rw [List.length_nil]
    go_enter Tryz.func40, Tryz.ntmps40
    go_wp2
    go_ret2
    exact ⟨by rw [hT.out]; rfl, (Below.refl _ w).alloc (Nat.le_refl _) _⟩
  · exact callsIn_wide.1 (text_in Fence.wide 3 trivial trivial trivial trivial trivial trivial trivial rfl (Nat.le_refl _) (fun _ g W h0 h1 ht => callsIn_wide.2 (itoa_small g W h0 h1 ht)) (fun _ c W hc => callsIn_wide.2 (repeat_zero c W hc))
      (fun _ B b bs s W h h1 h2 => callsIn_wide.2 (writeString_any B b bs s W h h1 h2)) (fun _ B b l W h hl => callsIn_wide.2 (Tryz.Builder_String_k B b l W h hl)) neg v a w ha h0 fa ht)

end Go.Proofs.Tryz
