/- The reference's long fractions. -/
import Derived.Test.YtjjmabokoendbaaGreatDoorQB
import Derived.Test.YtjjmabokoendbaaGreatDoorTenP
namespace Go.Proofs.Dt
/-- A row of digits, without zeros ahead of it. -/
def Dig (s : ByteArray) : Prop := s.data.toList.all isDig = true ∧ 1 ≤ s.size ∧ s.size ≤ 100 ∧ (s.size = 1 ∨ s.data.toList.head? ≠ some 48)
theorem list_len (s : ByteArray) : s.data.toList.length = s.size := by rw [Array.length_toList]; rfl
theorem digits_is {l : List UInt8} (hne : l ≠ []) (hd : l.all isDig = true) (hh : l.head? ≠ some 48) : str (dval l : Int) = l := by
  rw [str_nonneg (by omega), Int.toNat_natCast, decDigits_dval l hne hd hh]
theorem digits_neg {l : List UInt8} (hne : l ≠ []) (hd : l.all isDig = true) (hh : l.head? ≠ some 48) (h0 : 0 < dval l) : str (-(dval l : Int)) = 45 :: l := by
  rw [str_neg (by omega), Int.natAbs_neg, Int.natAbs_natCast, decDigits_dval l hne hd hh]
theorem dval_pos {l : List UInt8} (hne : l ≠ []) (hd : l.all isDig = true) (hh : l.head? ≠ some 48) : 0 < dval l := by
  rcases Nat.eq_zero_or_pos (dval l) with h | h
  · exfalso
    have e := decDigits_dval l hne hd hh
    rw [h] at e
    have : Go.Lib.decDigits 0 = [48] := by rw [decDigits_lt (by decide)]; rfl
    rw [this] at e
    exact hh (by rw [← e]; rfl)
  · exact h
theorem Dig.is {s : ByteArray} (h : Dig s) : Is s (dval s.data.toList : Int) ∧ dval s.data.toList < 10 ^ 100 := by
  obtain ⟨h1, h2, h3, h4⟩ := h
  have hlt := dval_lt _ h1
  rw [list_len] at hlt
  refine ⟨?_, Nat.lt_of_lt_of_le hlt (Nat.pow_le_pow_right (by decide) h3)⟩
  have hne : s.data.toList ≠ [] := by intro e; rw [← list_len, e] at h2; simp at h2
  by_cases hz : s.data.toList.head? = some 48
  · have h5 : s.size = 1 := by rcases h4 with h | h; exact h; exact absurd hz h
    have e : s.data.toList = [48] := by
      rw [← list_len] at h5
      match hl : s.data.toList, h5 with
      | [c], _ => rw [hl] at hz; simp at hz; rw [hz]
    refine Is.of_list ?_
    rw [e, show ((dval [48] : Nat) : Int) = 0 from rfl]
    exact Is.zero.list
  · exact Is.of_list (digits_is hne h1 hz).symm
theorem Dig.minus {s : ByteArray} (h : Dig s) (hz : s ≠ ⟨#[48]⟩) : Is ((⟨#[45]⟩ : ByteArray) ++ s) (-(dval s.data.toList : Int)) := by
  obtain ⟨h1, h2, h3, h4⟩ := h
  have hne : s.data.toList ≠ [] := by intro e; rw [← list_len, e] at h2; simp at h2
  have hh : s.data.toList.head? ≠ some 48 := by
    rcases h4 with h5 | h5
    · intro e
      rw [← list_len] at h5
      apply hz
      apply ByteArray.ext
      apply Array.ext'
      match hl : s.data.toList, h5 with
      | [c], _ => rw [hl] at e; simp at e; rw [e]
    · exact h5
  refine Is.of_list ?_
  rw [digits_neg hne h1 hh (dval_pos hne h1 hh), ByteArray.data_append]
  simp
theorem Dig.seven : Dig ⟨#[55]⟩ := ⟨by decide, by decide, by decide, .inl rfl⟩
theorem Dig.ne_zero {s : ByteArray} (h : Dig s) (hz : s ≠ ⟨#[48]⟩) : (dval s.data.toList : Int) ≠ 0 := fun e => hz ((Is.inj h.is.1 Is.zero).2 e)
theorem hundred_lim {x : Int} (h : x.natAbs < 10 ^ 100) : x.natAbs < limit := Nat.lt_of_lt_of_le h (Nat.pow_le_pow_right (by decide) (by decide))
/-- One more digit. -/
theorem dig_next {t : ByteArray} {ch : UInt8} (h : t.data.toList.all isDig = true) (hc : isDig ch = true) : (t ++ (⟨[ch].toArray⟩ : ByteArray)).data.toList.all isDig = true := by
  rw [ByteArray.data_append]
  simp only [Array.toList_append, List.all_append, h, Bool.true_and]
  simp [hc]
theorem size_next (t : ByteArray) (ch : UInt8) : (t ++ (⟨[ch].toArray⟩ : ByteArray)).size = t.size + 1 := by rw [ByteArray.size_append]; rfl
theorem head_get {s : ByteArray} (h : 0 < s.size) : s.data.toList.head? = some s[0] := by
  have hl := list_len s
  cases e : s.data.toList with
  | nil => rw [e] at hl; simp at hl; omega
  | cons c r =>
    have : s[0] = c := by
      show s.data[0] = c
      have h2 : s.data.toList[0]? = some c := by rw [e]; rfl
      rw [Array.getElem?_toList] at h2
      exact (Array.getElem?_eq_some_iff.1 h2).2
    rw [this]; rfl
theorem tail_dig {s : ByteArray} (h : s.data.toList.all isDig = true) : (s.extract 1 s.size).data.toList.all isDig = true := by
  rw [List.all_eq_true] at h ⊢
  intro c hc
  apply h
  rw [ByteArray.data_extract, Array.toList_extract] at hc
  exact List.mem_of_mem_drop (List.mem_of_mem_take hc)
end Go.Proofs.Dt
namespace Go.Proofs.Tryz
open Go.RowKit Go.Shelf Go.Proofs.Dt

/-- The blocks of 'Long': what came in, the result, the two rows of digits. -/
structure LSt (w W : World) (x0 x1 x2 x3 : Int) (o0 o1 : ByteArray) : Prop where
  x : W.heap[w.heap.size]? = some (.cells #[.int .i64 x0, .int .i64 x1, .int .i64 x2, .int .i64 x3] 22 (0, 0))
  r : FB W (w.heap.size + 1) ⟨#[]⟩ ⟨#[]⟩
  o : W.heap[w.heap.size + 1 + 1]? = some (.cells #[.string o0, .string o1] 64 (0, 0))
  s : Since w W
section
variable {w W W' : World} {x0 x1 x2 x3 : Int} {o0 o1 : ByteArray}
theorem LSt.lt (h : LSt w W x0 x1 x2 x3 o0 o1) : w.heap.size + 1 + 1 < W.heap.size := (Array.getElem?_eq_some_iff.1 h.o).1
theorem LSt.cx0 (h : LSt w W x0 x1 x2 x3 o0 o1) : W.cell? ⟨w.heap.size, 0, none⟩ = some (.int .i64 x0) := by rw [Lib.cell_of_heap h.x]; rfl
theorem LSt.cx1 (h : LSt w W x0 x1 x2 x3 o0 o1) : W.cell? ⟨w.heap.size, 1, none⟩ = some (.int .i64 x1) := by rw [Lib.cell_of_heap h.x]; rfl
theorem LSt.cx2 (h : LSt w W x0 x1 x2 x3 o0 o1) : W.cell? ⟨w.heap.size, 2, none⟩ = some (.int .i64 x2) := by rw [Lib.cell_of_heap h.x]; rfl
theorem LSt.cx3 (h : LSt w W x0 x1 x2 x3 o0 o1) : W.cell? ⟨w.heap.size, 3, none⟩ = some (.int .i64 x3) := by rw [Lib.cell_of_heap h.x]; rfl
theorem LSt.co0 (h : LSt w W x0 x1 x2 x3 o0 o1) : W.cell? ⟨w.heap.size + 1 + 1, 0, none⟩ = some (.string o0) := by rw [Lib.cell_of_heap h.o]; rfl
theorem LSt.co1 (h : LSt w W x0 x1 x2 x3 o0 o1) : W.cell? ⟨w.heap.size + 1 + 1, 1, none⟩ = some (.string o1) := by rw [Lib.cell_of_heap h.o]; rfl
theorem LSt.fo (h : LSt w W x0 x1 x2 x3 o0 o1) (i : Nat) : W.frozen? ⟨w.heap.size + 1 + 1, i, none⟩ = false := Lib.frozen_of_heap h.o i
theorem LSt.next (h : LSt w W x0 x1 x2 x3 o0 o1) (k : Since W W') : LSt w W' x0 x1 x2 x3 o0 o1 :=
  ⟨(k.out.block _ (by have := h.lt; omega)).trans h.x, h.r.below k.out h.r.lt, (k.out.block _ h.lt).trans h.o, h.s.next k.out⟩
theorem LSt.set0 (h : LSt w W x0 x1 x2 x3 o0 o1) (s : ByteArray) : LSt w (W.setCell ⟨w.heap.size + 1 + 1, 0, none⟩ (.string s)) x0 x1 x2 x3 s o1 :=
  ⟨(Below.heap_setCell _ _ _ _ (by show w.heap.size ≠ w.heap.size + 1 + 1; omega)).trans h.x, (Below.heap_setCell _ _ _ _ (by show w.heap.size + 1 ≠ w.heap.size + 1 + 1; omega)).trans h.r, by simp [World.setCell, Array.getElem?_modify, h.o], h.s.out.setCell (p := ⟨w.heap.size + 1 + 1, 0, none⟩) (by show w.heap.size ≤ w.heap.size + 1 + 1; omega) _⟩
theorem LSt.set1 (h : LSt w W x0 x1 x2 x3 o0 o1) (s : ByteArray) : LSt w (W.setCell ⟨w.heap.size + 1 + 1, 1, none⟩ (.string s)) x0 x1 x2 x3 o0 s :=
  ⟨(Below.heap_setCell _ _ _ _ (by show w.heap.size ≠ w.heap.size + 1 + 1; omega)).trans h.x, (Below.heap_setCell _ _ _ _ (by show w.heap.size + 1 ≠ w.heap.size + 1 + 1; omega)).trans h.r, by simp [World.setCell, Array.getElem?_modify, h.o], h.s.out.setCell (p := ⟨w.heap.size + 1 + 1, 1, none⟩) (by show w.heap.size ≤ w.heap.size + 1 + 1; omega) _⟩
theorem LSt.start (w : World) (x0 x1 x2 x3 : Int) : LSt w (((w.alloc (.cells #[.int .i64 x0, .int .i64 x1, .int .i64 x2, .int .i64 x3] 22)).alloc (.cells #[.string ⟨#[]⟩, .string ⟨#[]⟩] 26)).alloc (.cells #[.string ⟨#[]⟩, .string ⟨#[]⟩] 64)) x0 x1 x2 x3 ⟨#[]⟩ ⟨#[]⟩ := by
  have a : ((w.alloc (.cells #[.int .i64 x0, .int .i64 x1, .int .i64 x2, .int .i64 x3] 22)).alloc (.cells #[.string ⟨#[]⟩, .string ⟨#[]⟩] 26)).heap[w.heap.size]? = some (.cells #[.int .i64 x0, .int .i64 x1, .int .i64 x2, .int .i64 x3] 22 (0, 0)) := (Below.heap_alloc _ _ _ (by simp)).trans (World.alloc_heap_new w _)
  have b := FB.new (w.alloc (.cells #[.int .i64 x0, .int .i64 x1, .int .i64 x2, .int .i64 x3] 22)) ⟨#[]⟩ ⟨#[]⟩
  rw [World.size_alloc] at b
  have c := World.alloc_heap_new ((w.alloc (.cells #[.int .i64 x0, .int .i64 x1, .int .i64 x2, .int .i64 x3] 22)).alloc (.cells #[.string ⟨#[]⟩, .string ⟨#[]⟩] 26)) (.cells #[.string ⟨#[]⟩, .string ⟨#[]⟩] 64)
  rw [World.size_alloc, World.size_alloc] at c
  exact ⟨(Below.heap_alloc _ _ _ (by simp; omega)).trans a, (Below.heap_alloc _ _ _ b.lt).trans b, c, (((Below.refl _ w).alloc (Nat.le_refl _) _).alloc (by simp) _).alloc (by simp; omega) _⟩
end

set_option maxHeartbeats 4000000 in
set_option maxRecDepth 100000 in
theorem long_any (x0 x1 x2 x3 : Int) (w : World) (h0 : Hid (I64 x0)) (h1 : Hid (I64 x1)) (h2 : Hid (I64 x2)) (h3 : Hid (I64 x3)) : Calls Tryz.prog 12 #[.agg #[.int .i64 x0, .int .i64 x1, .int .i64 x2, .int .i64 x3]] w (RatPost w (10 ^ 100) (10 ^ 100)) := by
  have HS0 := Lib.hid (LSt.start w x0 x1 x2 x3)
  go_enter Tryz.func12, Tryz.ntmps12
  go_wp2_with fail
  generalize ((w.alloc (.cells #[.int .i64 x0, .int .i64 x1, .int .i64 x2, .int .i64 x3] 22)).alloc (.cells #[.string ⟨#[]⟩, .string ⟨#[]⟩] 26)).alloc (.cells #[.string ⟨#[]⟩, .string ⟨#[]⟩] 64) = W0 at HS0 ⊢
  go_loopw [4] (fun i wr => ∃ (k : Nat) (o0 o1 : ByteArray), i = .int .i64 (k : Int) ∧ k ≤ 2 ∧ Hid (LSt w wr x0 x1 x2 x3 o0 o1 ∧ (1 ≤ k → Dig o0) ∧ (2 ≤ k → Dig o1))) (fun i _ => 2 - (intOf i).toNat)
  case atStart => exact ⟨0, _, _, rfl, by omega, HS0.out, by omega, by omega⟩
  case round =>
    obtain ⟨k, o0, o1, rfl, hk, HI⟩ := hrel
    obtain ⟨wo, hwo⟩ : ∃ wo : World, wo = wr := ⟨_, rfl⟩
    rcases (show k = 0 ∨ k = 1 ∨ k = 2 by omega) with rfl | rfl | rfl
    · have a0 := HI.out.1.cx1
      have a1 := HI.out.1.cx0
      obtain ⟨p, hp⟩ : ∃ p, p = pickZ x1 100 := ⟨_, rfl⟩
      obtain ⟨q, hq⟩ : ∃ q, q = pickZ x0 1000000007 := ⟨_, rfl⟩
      have bp := pickZ_in x1 (n := 100) (by decide)
      have bq := pickZ_in x0 (n := 1000000007) (by decide)
      rw [← hp] at bp
      rw [← hq] at bq
      have HP : Hid (∀ W, Calls Tryz.prog 46 #[.int .i64 x1, .int .i64 100] W fun e w' => e = .returned (.int .i64 p) ∧ W = w') := fun W => by rw [hp]; exact qpick_any x1 100 h1 (by decide) (by decide) W
      have HQ : Hid (∀ W, Calls Tryz.prog 46 #[.int .i64 x0, .int .i64 1000000007] W fun e w' => e = .returned (.int .i64 q) ∧ W = w') := fun W => by rw [hq]; exact qpick_any x0 1000000007 h0 (by decide) (by decide) W
      clear hp hq hwo
      go_wp2_with fail
      refine (HP.out _).mono ?_
      rintro e W1 ⟨rfl, hww⟩
      subst hww
      go_wp2_with fail
      refine (HQ.out _).mono ?_
      rintro e W1 ⟨rfl, hww⟩
      subst hww
      clear HP HQ a0 a1
      go_wp2_with fail
      go_loopw [6, 7] (fun s c wi => ∃ (t : ByteArray) (cc : Int), s = .string t ∧ c = .int .i64 cc ∧ 0 ≤ cc ∧ cc < 2147483647 ∧ (t.size : Int) ≤ 1 + p ∧ Hid (t.data.toList.all isDig = true ∧ LSt w wi x0 x1 x2 x3 o0 o1)) (fun s _ _ => 200 - (match s with | .string t => t.size | _ => 0))
      case atStart => exact ⟨⟨#[]⟩, q, rfl, rfl, by omega, by omega, by show (0 : Int) ≤ _; omega, rfl, HI.out.1⟩
      case round =>
        obtain ⟨t, cc, rfl, rfl, c0, c1, hsz, HT⟩ := hrel
        by_cases hlt : (t.size : Int) < 1 + p
        · obtain ⟨c2, hc2⟩ : ∃ c2, c2 = (cc * 48271 + 11) % 2147483647 := ⟨_, rfl⟩
          have b2 : 0 ≤ c2 ∧ c2 < 2147483647 := by omega
          have hc2' : (cc * 48271 + 11) % 2147483647 = c2 := hc2.symm
          clear hc2
          obtain ⟨ch, hch, hdg⟩ : ∃ ch : UInt8, 48 + c2 / 65536 % 10 = (ch.toNat : Int) ∧ isDig ch = true := by
            have e := ofNat_dig (d := (c2 / 65536 % 10).toNat) (by omega)
            exact ⟨UInt8.ofNat (48 + (c2 / 65536 % 10).toNat), by rw [e]; omega, (isDig_iff _).2 (by rw [e]; omega)⟩
          have HDG := Lib.hid hdg
          have hconv := ownsRow_string (l := [ch]) (show (wr.alloc (.cells #[.int .u8 (ch.toNat : Int)] 5)).ownsRow wr.heap.size 5 1 (.slice (some ⟨wr.heap.size, 0, none⟩) 1 1) [ch].length (u8s [ch]) from ⟨rfl, .inr ⟨wr.heap.size, 1, #[.int .u8 (ch.toNat : Int)], rfl, Nat.le_refl _, World.alloc_heap_new wr _, Nat.le_refl _, by unfold maxLen; omega, rfl, rfl⟩⟩)
          have hts : t.size ≤ 1000 := by omega
          have HN : Hid ((t ++ (⟨[ch].toArray⟩ : ByteArray)).data.toList.all isDig = true ∧ LSt w (wr.alloc (.cells #[.int .u8 (ch.toNat : Int)] 5)) x0 x1 x2 x3 o0 o1) := ⟨dig_next HT.out.1 HDG.out, HT.out.2.next ((Below.refl _ wr).alloc (Nat.le_refl _) _)⟩
          have hsn := size_next t ch
          obtain ⟨one, hone⟩ : ∃ one : ByteArray, one = ⟨[ch].toArray⟩ := ⟨_, rfl⟩
          rw [← hone] at hconv HN hsn
          have hos : one.size = 1 := by rw [hone]; rfl
          clear hone hdg
          go_wp2
          go_roundw
          case rel => exact ⟨t ++ one, c2, rfl, by rw [hc2'], b2.1, b2.2, by rw [hsn]; omega, HN⟩
          case measure => simp [hsn]; omega
        · have hts : (t.size : Int) = 1 + p := by omega
          have HT2 : Hid (t.data.toList.all isDig = true ∧ LSt w wr x0 x1 x2 x3 o0 o1) := HT
          clear HT hlt hsz c0 c1
          go_wp2_with fail
          go_loopw [6] (fun s wi => ∃ t : ByteArray, s = .string t ∧ 1 ≤ t.size ∧ t.size ≤ 100 ∧ Hid (t.data.toList.all isDig = true ∧ LSt w wi x0 x1 x2 x3 o0 o1)) (fun s _ => (match s with | .string t => t.size | _ => 0))
          case atStart => exact ⟨t, rfl, by omega, by omega, HT2⟩
          case round =>
            clear HT2 hts
            obtain ⟨t, rfl, t0, t1, HT⟩ := hrel
            by_cases hg : 1 < t.size
            · have h00 : 0 < t.size := by omega
              obtain ⟨u, hu⟩ : ∃ u : Nat, t[0].toNat = u := ⟨_, rfl⟩
              have hgd : decide ((1 : Int) < (t.size : Int)) = true := decide_eq_true (by omega)
              by_cases h48 : u = 48
              · subst h48
                have HN : Hid ((t.extract 1 t.size).data.toList.all isDig = true ∧ LSt w wr x0 x1 x2 x3 o0 o1) := ⟨tail_dig HT.out.1, HT.out.2⟩
                have hsz : (t.extract 1 t.size).size = t.size - 1 := by rw [ByteArray.size_extract]; omega
                clear HT
                go_wp2
                go_roundw
                case rel => exact ⟨t.extract 1 t.size, rfl, by omega, by omega, HN⟩
                case measure => simp [hsz]; omega
              · have h48' : ((u : Int) == 48) = false := by rw [beq_eq_false_iff_ne]; omega
                have HDg : Dig t := ⟨HT.out.1, t0, t1, .inr (by rw [head_get h00]; intro e; apply h48; rw [← hu, Option.some.inj e]; rfl)⟩
                have HL := Lib.hid HT.out.2
                have LN : LSt w (wr.setCell ⟨w.heap.size + 1 + 1, 0, none⟩ (.string t)) x0 x1 x2 x3 t o1 := HT.out.2.set0 t
                have HD2 := Lib.hid HDg
                have HLN := Lib.hid LN
                have e0 := HL.out.co0; have e1 := HL.out.co1; have g0 := HL.out.fo 0; have g1 := HL.out.fo 1
                clear HDg LN HT HL t0 t1 h48
                go_wp2
                go_roundw
                case rel => exact ⟨1, t, o1, by go_num, by omega, HLN.out, fun _ => HD2.out, by omega⟩
                case measure => simp [intOf]
            · have hgd : decide ((1 : Int) < (t.size : Int)) = false := decide_eq_false (by omega)
              have HDg : Dig t := ⟨HT.out.1, t0, t1, .inl (by omega)⟩
              have HL := Lib.hid HT.out.2
              have LN : LSt w (wr.setCell ⟨w.heap.size + 1 + 1, 0, none⟩ (.string t)) x0 x1 x2 x3 t o1 := HT.out.2.set0 t
              have HD2 := Lib.hid HDg
              have HLN := Lib.hid LN
              have e0 := HL.out.co0; have e1 := HL.out.co1; have g0 := HL.out.fo 0; have g1 := HL.out.fo 1
              clear HDg LN HT HL t0 t1
              go_wp2
              go_roundw
              case rel => exact ⟨1, t, o1, by go_num, by omega, HLN.out, fun _ => HD2.out, by omega⟩
              case measure => simp [intOf]
    · have a0 := HI.out.1.cx3
      have a1 := HI.out.1.cx2
      obtain ⟨p, hp⟩ : ∃ p, p = pickZ x3 100 := ⟨_, rfl⟩
      obtain ⟨q, hq⟩ : ∃ q, q = pickZ x2 1000000007 := ⟨_, rfl⟩
      have bp := pickZ_in x3 (n := 100) (by decide)
      have bq := pickZ_in x2 (n := 1000000007) (by decide)
      rw [← hp] at bp
      rw [← hq] at bq
      have HP : Hid (∀ W, Calls Tryz.prog 46 #[.int .i64 x3, .int .i64 100] W fun e w' => e = .returned (.int .i64 p) ∧ W = w') := fun W => by rw [hp]; exact qpick_any x3 100 h3 (by decide) (by decide) W
      have HQ : Hid (∀ W, Calls Tryz.prog 46 #[.int .i64 x2, .int .i64 1000000007] W fun e w' => e = .returned (.int .i64 q) ∧ W = w') := fun W => by rw [hq]; exact qpick_any x2 1000000007 h2 (by decide) (by decide) W
      clear hp hq hwo
      go_wp2_with fail
      refine (HP.out _).mono ?_
      rintro e W1 ⟨rfl, hww⟩
      subst hww
      go_wp2_with fail
      refine (HQ.out _).mono ?_
      rintro e W1 ⟨rfl, hww⟩
      subst hww
      clear HP HQ a0 a1
      go_wp2_with fail
      go_loopw [6, 7] (fun s c wi => ∃ (t : ByteArray) (cc : Int), s = .string t ∧ c = .int .i64 cc ∧ 0 ≤ cc ∧ cc < 2147483647 ∧ (t.size : Int) ≤ 1 + p ∧ Hid (t.data.toList.all isDig = true ∧ LSt w wi x0 x1 x2 x3 o0 o1)) (fun s _ _ => 200 - (match s with | .string t => t.size | _ => 0))
      case atStart => exact ⟨⟨#[]⟩, q, rfl, rfl, by omega, by omega, by show (0 : Int) ≤ _; omega, rfl, HI.out.1⟩
      case round =>
        obtain ⟨t, cc, rfl, rfl, c0, c1, hsz, HT⟩ := hrel
        by_cases hlt : (t.size : Int) < 1 + p
        · obtain ⟨c2, hc2⟩ : ∃ c2, c2 = (cc * 48271 + 11) % 2147483647 := ⟨_, rfl⟩
          have b2 : 0 ≤ c2 ∧ c2 < 2147483647 := by omega
          have hc2' : (cc * 48271 + 11) % 2147483647 = c2 := hc2.symm
          clear hc2
          obtain ⟨ch, hch, hdg⟩ : ∃ ch : UInt8, 48 + c2 / 65536 % 10 = (ch.toNat : Int) ∧ isDig ch = true := by
            have e := ofNat_dig (d := (c2 / 65536 % 10).toNat) (by omega)
            exact ⟨UInt8.ofNat (48 + (c2 / 65536 % 10).toNat), by rw [e]; omega, (isDig_iff _).2 (by rw [e]; omega)⟩
          have HDG := Lib.hid hdg
          have hconv := ownsRow_string (l := [ch]) (show (wr.alloc (.cells #[.int .u8 (ch.toNat : Int)] 5)).ownsRow wr.heap.size 5 1 (.slice (some ⟨wr.heap.size, 0, none⟩) 1 1) [ch].length (u8s [ch]) from ⟨rfl, .inr ⟨wr.heap.size, 1, #[.int .u8 (ch.toNat : Int)], rfl, Nat.le_refl _, World.alloc_heap_new wr _, Nat.le_refl _, by unfold maxLen; omega, rfl, rfl⟩⟩)
          have hts : t.size ≤ 1000 := by omega
          have HN : Hid ((t ++ (⟨[ch].toArray⟩ : ByteArray)).data.toList.all isDig = true ∧ LSt w (wr.alloc (.cells #[.int .u8 (ch.toNat : Int)] 5)) x0 x1 x2 x3 o0 o1) := ⟨dig_next HT.out.1 HDG.out, HT.out.2.next ((Below.refl _ wr).alloc (Nat.le_refl _) _)⟩
          have hsn := size_next t ch
          obtain ⟨one, hone⟩ : ∃ one : ByteArray, one = ⟨[ch].toArray⟩ := ⟨_, rfl⟩
          rw [← hone] at hconv HN hsn
          have hos : one.size = 1 := by rw [hone]; rfl
          clear hone hdg
          go_wp2
          go_roundw
          case rel => exact ⟨t ++ one, c2, rfl, by rw [hc2'], b2.1, b2.2, by rw [hsn]; omega, HN⟩
          case measure => simp [hsn]; omega
        · have hts : (t.size : Int) = 1 + p := by omega
          have HT2 : Hid (t.data.toList.all isDig = true ∧ LSt w wr x0 x1 x2 x3 o0 o1) := HT
          clear HT hlt hsz c0 c1
          go_wp2_with fail
          go_loopw [6] (fun s wi => ∃ t : ByteArray, s = .string t ∧ 1 ≤ t.size ∧ t.size ≤ 100 ∧ Hid (t.data.toList.all isDig = true ∧ LSt w wi x0 x1 x2 x3 o0 o1)) (fun s _ => (match s with | .string t => t.size | _ => 0))
          case atStart => exact ⟨t, rfl, by omega, by omega, HT2⟩
          case round =>
            clear HT2 hts
            obtain ⟨t, rfl, t0, t1, HT⟩ := hrel
            by_cases hg : 1 < t.size
            · have h00 : 0 < t.size := by omega
              obtain ⟨u, hu⟩ : ∃ u : Nat, t[0].toNat = u := ⟨_, rfl⟩
              have hgd : decide ((1 : Int) < (t.size : Int)) = true := decide_eq_true (by omega)
              by_cases h48 : u = 48
              · subst h48
                have HN : Hid ((t.extract 1 t.size).data.toList.all isDig = true ∧ LSt w wr x0 x1 x2 x3 o0 o1) := ⟨tail_dig HT.out.1, HT.out.2⟩
                have hsz : (t.extract 1 t.size).size = t.size - 1 := by rw [ByteArray.size_extract]; omega
                clear HT
                go_wp2
                go_roundw
                case rel => exact ⟨t.extract 1 t.size, rfl, by omega, by omega, HN⟩
                case measure => simp [hsz]; omega
              · have h48' : ((u : Int) == 48) = false := by rw [beq_eq_false_iff_ne]; omega
                have HDg : Dig t := ⟨HT.out.1, t0, t1, .inr (by rw [head_get h00]; intro e; apply h48; rw [← hu, Option.some.inj e]; rfl)⟩
                have HL := Lib.hid HT.out.2
                have LN : LSt w (wr.setCell ⟨w.heap.size + 1 + 1, 1, none⟩ (.string t)) x0 x1 x2 x3 o0 t := HT.out.2.set1 t
                have HD2 := Lib.hid HDg
                have HLN := Lib.hid LN
                have e0 := HL.out.co0; have e1 := HL.out.co1; have g0 := HL.out.fo 0; have g1 := HL.out.fo 1
                clear HDg LN HT HL t0 t1 h48
                go_wp2
                go_roundw
                case rel => exact ⟨2, o0, t, by go_num, by omega, HLN.out, fun _ => HI.out.2.1 (by omega), fun _ => HD2.out⟩
                case measure => simp [intOf]
            · have hgd : decide ((1 : Int) < (t.size : Int)) = false := decide_eq_false (by omega)
              have HDg : Dig t := ⟨HT.out.1, t0, t1, .inl (by omega)⟩
              have HL := Lib.hid HT.out.2
              have LN : LSt w (wr.setCell ⟨w.heap.size + 1 + 1, 1, none⟩ (.string t)) x0 x1 x2 x3 o0 t := HT.out.2.set1 t
              have HD2 := Lib.hid HDg
              have HLN := Lib.hid LN
              have e0 := HL.out.co0; have e1 := HL.out.co1; have g0 := HL.out.fo 0; have g1 := HL.out.fo 1
              clear HDg LN HT HL t0 t1
              go_wp2
              go_roundw
              case rel => exact ⟨2, o0, t, by go_num, by omega, HLN.out, fun _ => HI.out.2.1 (by omega), fun _ => HD2.out⟩
              case measure => simp [intOf]
    · have HD0 := Lib.hid (HI.out.2.1 (by omega))
      have HD1 := Lib.hid (HI.out.2.2 (by omega))
      have HI1 := Lib.hid HI.out.1
      obtain ⟨p, hp⟩ : ∃ p, p = pickZ x0 2 := ⟨_, rfl⟩
      have HPk : Hid (∀ W, Calls Tryz.prog 46 #[.int .i64 x0, .int .i64 2] W fun e w' => e = .returned (.int .i64 p) ∧ W = w') := fun W => by rw [hp]; exact qpick_any x0 2 h0 (by decide) (by decide) W
      clear hp HI hwo
      by_cases hy : o1 = ⟨#[48]⟩
      · subst hy
        have HYb : Hid (Is (⟨#[55]⟩ : ByteArray) 7 ∧ (7 : Int).natAbs < 10 ^ 100) := ⟨Dig.seven.is.1, Nat.lt_of_lt_of_le (show 7 < 10 ^ 1 by decide) (Nat.pow_le_pow_right (by decide) (by decide))⟩
        have HYn : Hid ((7 : Int) ≠ 0) := by show (7 : Int) ≠ 0; decide
        have HL := Lib.hid (HI1.out.set1 ⟨#[55]⟩)
        have d0 := HI1.out.co0; have d1 := HI1.out.co1; have g0 := HI1.out.fo 0; have g1 := HI1.out.fo 1; have d2 := HI1.out.cx0
        have e0 := HL.out.co0; have e1 := HL.out.co1; have a0 := HL.out.cx0
        go_wp2_with fail
        refine (HPk.out _).mono ?_
        rintro e W1 ⟨rfl, hww⟩
        subst hww
        clear e0 e1 a0
        by_cases hp : p = 0
        · subst hp
          by_cases hz : o0 = ⟨#[48]⟩
          · subst hz
            have HZ : Hid (Is (⟨#[48]⟩ : ByteArray) 0 ∧ (0 : Int).natAbs < 10 ^ 100) := ⟨Is.zero, Nat.pow_pos (by decide)⟩
            have HLF := HL
            have e0 := HL.out.co0; have e1 := HL.out.co1; have a0 := HL.out.cx0
            obtain ⟨u, v, HFr⟩ : ∃ u v, Fr u v (Rat.divInt 0 7) := Fr.of_fits ((makeR_some HYn.out) ▸ makeR_fits (N := 0) (D := 7) (hundred_lim HZ.out.2) (hundred_lim HYb.out.2))
            have HO : Hid (out (makeS (⟨#[48]⟩ : ByteArray).data.toList (⟨#[55]⟩ : ByteArray).data.toList) = (u, v, 0)) := by
              show out _ = _
              rw [(HZ.out.1).list, HYb.out.1.list, make_str (hundred_lim HZ.out.2) (hundred_lim HYb.out.2), makeR_some HYn.out]; exact out_fr HFr
            have HP : Hid (Fr u v (Rat.divInt 0 7) ∧ (Rat.divInt 0 7).num.natAbs < 10 ^ 100 ∧ (Rat.divInt 0 7).den < 10 ^ 100) := by
              have h := divInt_le' (N := 0) (D := 7) HYn.out
              exact ⟨HFr, Nat.lt_of_le_of_lt h.1 HZ.out.2, Nat.lt_of_le_of_lt h.2 HYb.out.2⟩
            have hz1 : Hid ((⟨#[48]⟩ : ByteArray).size ≤ 1000) := Is.size HZ.out.1 (hundred_lim HZ.out.2)
            have hy1 : Hid ((⟨#[55]⟩ : ByteArray).size ≤ 1000) := Is.size HYb.out.1 (hundred_lim HYb.out.2)
            clear HFr
            go_wp2_with fail
            refine (qmake_any (⟨#[48]⟩) (⟨#[55]⟩) u v 0 (wr.setCell ⟨w.heap.size + 1 + 1, 1, none⟩ (.string ⟨#[55]⟩)) hz1.out hy1.out HO).mono ?_
            rintro e W5 ⟨rfl, HB5⟩
            have SF := Lib.hid ((HLF.out.next HB5).next ((Below.refl _ W5).alloc (Nat.le_refl _) (.cells #[.string u, .string v] 26)))
            have f0 := SF.out.r.f0; have f1 := SF.out.r.f1
            have q0 := SF.out.r.c0; have q1 := SF.out.r.c1
            go_wp2
            refine bodyPost_ret (results_row (p := 2) (by kernel_rfl) _ _ (w.heap.size + 1) _ _ rfl (SF.out.r.put _ _)) rfl ?_
            exact ⟨_, _, _, rfl, HP, SF.out.s.put (by omega) _ _⟩
          · have hzn := toList_ne hz
            rw [show (⟨#[48]⟩ : ByteArray).toList = [48] from Go.ByteArray.toList_eq _] at hzn
            have hos : o0.size ≤ 1000 := by have := HD0.out.2.2.1; omega
            have HZ : Hid (Is ((⟨#[45]⟩ : ByteArray) ++ o0) (-(dval o0.data.toList : Int)) ∧ (-(dval o0.data.toList : Int)).natAbs < 10 ^ 100) := ⟨HD0.out.minus hz, by rw [Int.natAbs_neg, Int.natAbs_natCast]; exact HD0.out.is.2⟩
            have HLF := Lib.hid (HL.out.set0 ((⟨#[45]⟩ : ByteArray) ++ o0))
            have e0 := HL.out.co0; have e1 := HL.out.co1; have a0 := HL.out.cx0; have g0 := HL.out.fo 0; have g1 := HL.out.fo 1
            obtain ⟨u, v, HFr⟩ : ∃ u v, Fr u v (Rat.divInt (-(dval o0.data.toList : Int)) 7) := Fr.of_fits ((makeR_some HYn.out) ▸ makeR_fits (N := (-(dval o0.data.toList : Int))) (D := 7) (hundred_lim HZ.out.2) (hundred_lim HYb.out.2))
            have HO : Hid (out (makeS ((⟨#[45]⟩ : ByteArray) ++ o0).data.toList (⟨#[55]⟩ : ByteArray).data.toList) = (u, v, 0)) := by
              show out _ = _
              rw [(HZ.out.1).list, HYb.out.1.list, make_str (hundred_lim HZ.out.2) (hundred_lim HYb.out.2), makeR_some HYn.out]; exact out_fr HFr
            have HP : Hid (Fr u v (Rat.divInt (-(dval o0.data.toList : Int)) 7) ∧ (Rat.divInt (-(dval o0.data.toList : Int)) 7).num.natAbs < 10 ^ 100 ∧ (Rat.divInt (-(dval o0.data.toList : Int)) 7).den < 10 ^ 100) := by
              have h := divInt_le' (N := (-(dval o0.data.toList : Int))) (D := 7) HYn.out
              exact ⟨HFr, Nat.lt_of_le_of_lt h.1 HZ.out.2, Nat.lt_of_le_of_lt h.2 HYb.out.2⟩
            have hz1 : Hid (((⟨#[45]⟩ : ByteArray) ++ o0).size ≤ 1000) := Is.size HZ.out.1 (hundred_lim HZ.out.2)
            have hy1 : Hid ((⟨#[55]⟩ : ByteArray).size ≤ 1000) := Is.size HYb.out.1 (hundred_lim HYb.out.2)
            clear HFr
            go_wp2_with fail
            refine (qmake_any ((⟨#[45]⟩ : ByteArray) ++ o0) (⟨#[55]⟩) u v 0 ((wr.setCell ⟨w.heap.size + 1 + 1, 1, none⟩ (.string ⟨#[55]⟩)).setCell ⟨w.heap.size + 1 + 1, 0, none⟩ (.string ((⟨#[45]⟩ : ByteArray) ++ o0))) hz1.out hy1.out HO).mono ?_
            rintro e W5 ⟨rfl, HB5⟩
            have SF := Lib.hid ((HLF.out.next HB5).next ((Below.refl _ W5).alloc (Nat.le_refl _) (.cells #[.string u, .string v] 26)))
            have f0 := SF.out.r.f0; have f1 := SF.out.r.f1
            have q0 := SF.out.r.c0; have q1 := SF.out.r.c1
            go_wp2
            refine bodyPost_ret (results_row (p := 2) (by kernel_rfl) _ _ (w.heap.size + 1) _ _ rfl (SF.out.r.put _ _)) rfl ?_
            exact ⟨_, _, _, rfl, HP, SF.out.s.put (by omega) _ _⟩
        · have hpn : (p == 0) = false := by rw [beq_eq_false_iff_ne]; exact hp
          have HZ : Hid (Is o0 (dval o0.data.toList : Int) ∧ ((dval o0.data.toList : Int)).natAbs < 10 ^ 100) := ⟨HD0.out.is.1, by rw [Int.natAbs_natCast]; exact HD0.out.is.2⟩
          have HLF := HL
          have e0 := HL.out.co0; have e1 := HL.out.co1; have a0 := HL.out.cx0
          obtain ⟨u, v, HFr⟩ : ∃ u v, Fr u v (Rat.divInt (dval o0.data.toList : Int) 7) := Fr.of_fits ((makeR_some HYn.out) ▸ makeR_fits (N := (dval o0.data.toList : Int)) (D := 7) (hundred_lim HZ.out.2) (hundred_lim HYb.out.2))
          have HO : Hid (out (makeS (o0).data.toList (⟨#[55]⟩ : ByteArray).data.toList) = (u, v, 0)) := by
            show out _ = _
            rw [(HZ.out.1).list, HYb.out.1.list, make_str (hundred_lim HZ.out.2) (hundred_lim HYb.out.2), makeR_some HYn.out]; exact out_fr HFr
          have HP : Hid (Fr u v (Rat.divInt (dval o0.data.toList : Int) 7) ∧ (Rat.divInt (dval o0.data.toList : Int) 7).num.natAbs < 10 ^ 100 ∧ (Rat.divInt (dval o0.data.toList : Int) 7).den < 10 ^ 100) := by
            have h := divInt_le' (N := (dval o0.data.toList : Int)) (D := 7) HYn.out
            exact ⟨HFr, Nat.lt_of_le_of_lt h.1 HZ.out.2, Nat.lt_of_le_of_lt h.2 HYb.out.2⟩
          have hz1 : Hid ((o0).size ≤ 1000) := Is.size HZ.out.1 (hundred_lim HZ.out.2)
          have hy1 : Hid ((⟨#[55]⟩ : ByteArray).size ≤ 1000) := Is.size HYb.out.1 (hundred_lim HYb.out.2)
          clear HFr
          go_wp2_with fail
          refine (qmake_any (o0) (⟨#[55]⟩) u v 0 (wr.setCell ⟨w.heap.size + 1 + 1, 1, none⟩ (.string ⟨#[55]⟩)) hz1.out hy1.out HO).mono ?_
          rintro e W5 ⟨rfl, HB5⟩
          have SF := Lib.hid ((HLF.out.next HB5).next ((Below.refl _ W5).alloc (Nat.le_refl _) (.cells #[.string u, .string v] 26)))
          have f0 := SF.out.r.f0; have f1 := SF.out.r.f1
          have q0 := SF.out.r.c0; have q1 := SF.out.r.c1
          go_wp2
          refine bodyPost_ret (results_row (p := 2) (by kernel_rfl) _ _ (w.heap.size + 1) _ _ rfl (SF.out.r.put _ _)) rfl ?_
          exact ⟨_, _, _, rfl, HP, SF.out.s.put (by omega) _ _⟩
      · have hyn := toList_ne hy
        rw [show (⟨#[48]⟩ : ByteArray).toList = [48] from Go.ByteArray.toList_eq _] at hyn
        have HYb : Hid (Is o1 (dval o1.data.toList : Int) ∧ ((dval o1.data.toList : Int)).natAbs < 10 ^ 100) := ⟨HD1.out.is.1, by rw [Int.natAbs_natCast]; exact HD1.out.is.2⟩
        have HYn : Hid ((dval o1.data.toList : Int) ≠ 0) := HD1.out.ne_zero hy
        have HL := HI1
        have e0 := HL.out.co0; have e1 := HL.out.co1; have a0 := HL.out.cx0
        go_wp2_with fail
        refine (HPk.out _).mono ?_
        rintro e W1 ⟨rfl, hww⟩
        subst hww
        clear e0 e1 a0
        by_cases hp : p = 0
        · subst hp
          by_cases hz : o0 = ⟨#[48]⟩
          · subst hz
            have HZ : Hid (Is (⟨#[48]⟩ : ByteArray) 0 ∧ (0 : Int).natAbs < 10 ^ 100) := ⟨Is.zero, Nat.pow_pos (by decide)⟩
            have HLF := HL
            have e0 := HL.out.co0; have e1 := HL.out.co1; have a0 := HL.out.cx0
            obtain ⟨u, v, HFr⟩ : ∃ u v, Fr u v (Rat.divInt 0 (dval o1.data.toList : Int)) := Fr.of_fits ((makeR_some HYn.out) ▸ makeR_fits (N := 0) (D := (dval o1.data.toList : Int)) (hundred_lim HZ.out.2) (hundred_lim HYb.out.2))
            have HO : Hid (out (makeS (⟨#[48]⟩ : ByteArray).data.toList (o1).data.toList) = (u, v, 0)) := by
              show out _ = _
              rw [(HZ.out.1).list, HYb.out.1.list, make_str (hundred_lim HZ.out.2) (hundred_lim HYb.out.2), makeR_some HYn.out]; exact out_fr HFr
            have HP : Hid (Fr u v (Rat.divInt 0 (dval o1.data.toList : Int)) ∧ (Rat.divInt 0 (dval o1.data.toList : Int)).num.natAbs < 10 ^ 100 ∧ (Rat.divInt 0 (dval o1.data.toList : Int)).den < 10 ^ 100) := by
              have h := divInt_le' (N := 0) (D := (dval o1.data.toList : Int)) HYn.out
              exact ⟨HFr, Nat.lt_of_le_of_lt h.1 HZ.out.2, Nat.lt_of_le_of_lt h.2 HYb.out.2⟩
            have hz1 : Hid ((⟨#[48]⟩ : ByteArray).size ≤ 1000) := Is.size HZ.out.1 (hundred_lim HZ.out.2)
            have hy1 : Hid ((o1).size ≤ 1000) := Is.size HYb.out.1 (hundred_lim HYb.out.2)
            clear HFr
            go_wp2_with fail
            refine (qmake_any (⟨#[48]⟩) (o1) u v 0 (wr) hz1.out hy1.out HO).mono ?_
            rintro e W5 ⟨rfl, HB5⟩
            have SF := Lib.hid ((HLF.out.next HB5).next ((Below.refl _ W5).alloc (Nat.le_refl _) (.cells #[.string u, .string v] 26)))
            have f0 := SF.out.r.f0; have f1 := SF.out.r.f1
            have q0 := SF.out.r.c0; have q1 := SF.out.r.c1
            go_wp2
            refine bodyPost_ret (results_row (p := 2) (by kernel_rfl) _ _ (w.heap.size + 1) _ _ rfl (SF.out.r.put _ _)) rfl ?_
            exact ⟨_, _, _, rfl, HP, SF.out.s.put (by omega) _ _⟩
          · have hzn := toList_ne hz
            rw [show (⟨#[48]⟩ : ByteArray).toList = [48] from Go.ByteArray.toList_eq _] at hzn
            have hos : o0.size ≤ 1000 := by have := HD0.out.2.2.1; omega
            have HZ : Hid (Is ((⟨#[45]⟩ : ByteArray) ++ o0) (-(dval o0.data.toList : Int)) ∧ (-(dval o0.data.toList : Int)).natAbs < 10 ^ 100) := ⟨HD0.out.minus hz, by rw [Int.natAbs_neg, Int.natAbs_natCast]; exact HD0.out.is.2⟩
            have HLF := Lib.hid (HL.out.set0 ((⟨#[45]⟩ : ByteArray) ++ o0))
            have e0 := HL.out.co0; have e1 := HL.out.co1; have a0 := HL.out.cx0; have g0 := HL.out.fo 0; have g1 := HL.out.fo 1
            obtain ⟨u, v, HFr⟩ : ∃ u v, Fr u v (Rat.divInt (-(dval o0.data.toList : Int)) (dval o1.data.toList : Int)) := Fr.of_fits ((makeR_some HYn.out) ▸ makeR_fits (N := (-(dval o0.data.toList : Int))) (D := (dval o1.data.toList : Int)) (hundred_lim HZ.out.2) (hundred_lim HYb.out.2))
            have HO : Hid (out (makeS ((⟨#[45]⟩ : ByteArray) ++ o0).data.toList (o1).data.toList) = (u, v, 0)) := by
              show out _ = _
              rw [(HZ.out.1).list, HYb.out.1.list, make_str (hundred_lim HZ.out.2) (hundred_lim HYb.out.2), makeR_some HYn.out]; exact out_fr HFr
            have HP : Hid (Fr u v (Rat.divInt (-(dval o0.data.toList : Int)) (dval o1.data.toList : Int)) ∧ (Rat.divInt (-(dval o0.data.toList : Int)) (dval o1.data.toList : Int)).num.natAbs < 10 ^ 100 ∧ (Rat.divInt (-(dval o0.data.toList : Int)) (dval o1.data.toList : Int)).den < 10 ^ 100) := by
              have h := divInt_le' (N := (-(dval o0.data.toList : Int))) (D := (dval o1.data.toList : Int)) HYn.out
              exact ⟨HFr, Nat.lt_of_le_of_lt h.1 HZ.out.2, Nat.lt_of_le_of_lt h.2 HYb.out.2⟩
            have hz1 : Hid (((⟨#[45]⟩ : ByteArray) ++ o0).size ≤ 1000) := Is.size HZ.out.1 (hundred_lim HZ.out.2)
            have hy1 : Hid ((o1).size ≤ 1000) := Is.size HYb.out.1 (hundred_lim HYb.out.2)
            clear HFr
            go_wp2_with fail
            refine (qmake_any ((⟨#[45]⟩ : ByteArray) ++ o0) (o1) u v 0 ((wr).setCell ⟨w.heap.size + 1 + 1, 0, none⟩ (.string ((⟨#[45]⟩ : ByteArray) ++ o0))) hz1.out hy1.out HO).mono ?_
            rintro e W5 ⟨rfl, HB5⟩
            have SF := Lib.hid ((HLF.out.next HB5).next ((Below.refl _ W5).alloc (Nat.le_refl _) (.cells #[.string u, .string v] 26)))
            have f0 := SF.out.r.f0; have f1 := SF.out.r.f1
            have q0 := SF.out.r.c0; have q1 := SF.out.r.c1
            go_wp2
            refine bodyPost_ret (results_row (p := 2) (by kernel_rfl) _ _ (w.heap.size + 1) _ _ rfl (SF.out.r.put _ _)) rfl ?_
            exact ⟨_, _, _, rfl, HP, SF.out.s.put (by omega) _ _⟩
        · have hpn : (p == 0) = false := by rw [beq_eq_false_iff_ne]; exact hp
          have HZ : Hid (Is o0 (dval o0.data.toList : Int) ∧ ((dval o0.data.toList : Int)).natAbs < 10 ^ 100) := ⟨HD0.out.is.1, by rw [Int.natAbs_natCast]; exact HD0.out.is.2⟩
          have HLF := HL
          have e0 := HL.out.co0; have e1 := HL.out.co1; have a0 := HL.out.cx0
          obtain ⟨u, v, HFr⟩ : ∃ u v, Fr u v (Rat.divInt (dval o0.data.toList : Int) (dval o1.data.toList : Int)) := Fr.of_fits ((makeR_some HYn.out) ▸ makeR_fits (N := (dval o0.data.toList : Int)) (D := (dval o1.data.toList : Int)) (hundred_lim HZ.out.2) (hundred_lim HYb.out.2))
          have HO : Hid (out (makeS (o0).data.toList (o1).data.toList) = (u, v, 0)) := by
            show out _ = _
            rw [(HZ.out.1).list, HYb.out.1.list, make_str (hundred_lim HZ.out.2) (hundred_lim HYb.out.2), makeR_some HYn.out]; exact out_fr HFr
          have HP : Hid (Fr u v (Rat.divInt (dval o0.data.toList : Int) (dval o1.data.toList : Int)) ∧ (Rat.divInt (dval o0.data.toList : Int) (dval o1.data.toList : Int)).num.natAbs < 10 ^ 100 ∧ (Rat.divInt (dval o0.data.toList : Int) (dval o1.data.toList : Int)).den < 10 ^ 100) := by
            have h := divInt_le' (N := (dval o0.data.toList : Int)) (D := (dval o1.data.toList : Int)) HYn.out
            exact ⟨HFr, Nat.lt_of_le_of_lt h.1 HZ.out.2, Nat.lt_of_le_of_lt h.2 HYb.out.2⟩
          have hz1 : Hid ((o0).size ≤ 1000) := Is.size HZ.out.1 (hundred_lim HZ.out.2)
          have hy1 : Hid ((o1).size ≤ 1000) := Is.size HYb.out.1 (hundred_lim HYb.out.2)
          clear HFr
          go_wp2_with fail
          refine (qmake_any (o0) (o1) u v 0 (wr) hz1.out hy1.out HO).mono ?_
          rintro e W5 ⟨rfl, HB5⟩
          have SF := Lib.hid ((HLF.out.next HB5).next ((Below.refl _ W5).alloc (Nat.le_refl _) (.cells #[.string u, .string v] 26)))
          have f0 := SF.out.r.f0; have f1 := SF.out.r.f1
          have q0 := SF.out.r.c0; have q1 := SF.out.r.c1
          go_wp2
          refine bodyPost_ret (results_row (p := 2) (by kernel_rfl) _ _ (w.heap.size + 1) _ _ rfl (SF.out.r.put _ _)) rfl ?_
          exact ⟨_, _, _, rfl, HP, SF.out.s.put (by omega) _ _⟩

end Go.Proofs.Tryz
