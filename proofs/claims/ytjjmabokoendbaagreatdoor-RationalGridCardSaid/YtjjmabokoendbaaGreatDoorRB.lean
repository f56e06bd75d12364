/- The reference's times and divided: what they return. -/
import Derived.Test.YtjjmabokoendbaaGreatDoorRA
import Derived.Laws.AppendOwnNone
namespace Go.Proofs.Dt

theorem sumTo_upd (B : Int) (f : Nat → Int) (p : Nat) (v : Int) : ∀ n, sumTo B (fun j => if j = p then v else f j) n = sumTo B f n + (if p < n then B ^ p * (v - f p) else 0)
  | 0 => by simp [sumTo]
  | n + 1 => by
    have ih := sumTo_upd B f p v n
    show sumTo B _ n + B ^ n * (if n = p then v else f n) = sumTo B f n + B ^ n * f n + _
    rw [ih]
    by_cases h : n = p
    · subst h
      rw [if_neg (Nat.lt_irrefl _), if_pos rfl, if_pos (Nat.lt_succ_self _)]
      grind
    · rw [if_neg h]
      by_cases h2 : p < n
      · rw [if_pos h2, if_pos (by omega)]; grind
      · rw [if_neg h2, if_neg (by omega)]; grind
theorem sumTo_zero (B : Int) : ∀ n, sumTo B (fun _ => 0) n = 0
  | 0 => rfl
  | n + 1 => by show sumTo B _ n + B ^ n * 0 = 0; rw [sumTo_zero B n]; simp
theorem val_take_succ {l : List Int} {k : Nat} (B : Int) : val B (l.take (k + 1)) = val B (l.take k) + B ^ k * l[k]?.getD 0 := by
  by_cases h : k < l.length
  · rw [List.take_succ_eq_append_getElem h, val_append, val_cons, val_nil, List.length_take, Nat.min_eq_left (by omega), List.getElem?_eq_getElem h]; simp
  · rw [List.take_of_length_le (by omega), List.take_of_length_le (by omega), List.getElem?_eq_none (by omega)]; simp

/-- Between two rounds of the inner loop. -/
structure RUInv (xs ys : List Int) (N i k : Nat) (c : Int) (f : Nat → Int) : Prop where
  dig : ∀ j, 0 ≤ f j ∧ f j < 10
  val : sumTo 10 f N + 10 ^ (i + k) * c = val 10 (xs.take i) * val 10 ys + 10 ^ i * xs[i]?.getD 0 * val 10 (ys.take k)
  zero : ∀ j, i + ys.length ≤ j → i + k ≤ j → f j = 0
  c0 : 0 ≤ c
  c9 : c ≤ 9
  kle : k ≤ ys.length ∨ (k = ys.length + 1 ∧ c = 0)

/-- Between two rounds of the outer loop. -/
structure RTInv (xs ys : List Int) (N i : Nat) (f : Nat → Int) : Prop where
  dig : ∀ j, 0 ≤ f j ∧ f j < 10
  val : sumTo 10 f N = val 10 (xs.take i) * val 10 ys
  zero : ∀ j, i + ys.length ≤ j → f j = 0

theorem RTInv.start (xs ys : List Int) (N : Nat) : RTInv xs ys N 0 (fun _ => 0) :=
  ⟨fun _ => ⟨by decide, by decide⟩, by rw [sumTo_zero, List.take_zero, val_nil, Int.zero_mul], fun _ _ => rfl⟩
theorem RTInv.inner {xs ys : List Int} {N i : Nat} {f : Nat → Int} (h : RTInv xs ys N i f) : RUInv xs ys N i 0 0 f :=
  ⟨h.dig, by rw [h.val, List.take_zero, val_nil]; simp, fun j h1 _ => h.zero j h1, by decide, by decide, .inl (Nat.zero_le _)⟩
theorem RUInv.outer {xs ys : List Int} {N i k : Nat} {c : Int} {f : Nat → Int} (h : RUInv xs ys N i k c f) (hk : ¬ k < ys.length) (hc : ¬ 0 < c) : RTInv xs ys N (i + 1) f := by
  have hc0 : c = 0 := by have := h.c0; omega
  have hv := h.val
  rw [hc0, Int.mul_zero, Int.add_zero, List.take_of_length_le (by omega : ys.length ≤ k)] at hv
  refine ⟨h.dig, ?_, fun j hj => h.zero j (by omega) ?_⟩
  · rw [hv, val_take_succ]; grind
  · rcases h.kle with e | ⟨e, _⟩ <;> omega

theorem RUInv.next {xs ys : List Int} {N i k : Nat} {c n : Int} {f : Nat → Int} (h : RUInv xs ys N i k c f) (hx : Dgs 10 xs) (hy : Dgs 10 ys) (hN : i + k < N) (hrun : k < ys.length ∨ 0 < c)
    (hn : n = f (i + k) + c + xs[i]?.getD 0 * ys[k]?.getD 0) : RUInv xs ys N i (k + 1) (n / 10) (fun j => if j = i + k then n % 10 else f j) := by
  have g1 := hx.get (by decide) i
  have g2 := hy.get (by decide) k
  have c0 := h.c0; have c9 := h.c9
  have d := h.dig (i + k)
  have hm0 : 0 ≤ xs[i]?.getD 0 * ys[k]?.getD 0 := Int.mul_nonneg g1.1 g2.1
  have hm1 : xs[i]?.getD 0 * ys[k]?.getD 0 ≤ 9 * 9 := Int.mul_le_mul (by omega) (by omega) g2.1 (by decide)
  refine ⟨fun j => ?_, ?_, fun j h1 h2 => ?_, by omega, by omega, ?_⟩
  · by_cases e : j = i + k
    · simp only [if_pos e]; omega
    · simp only [if_neg e]; exact h.dig j
  · rw [sumTo_upd, if_pos hN, val_take_succ]
    have hv := h.val
    have hdm := Int.emod_add_mul_ediv n 10
    rw [show i + (k + 1) = (i + k) + 1 by omega, Int.pow_succ]
    have hp : (10 : Int) ^ (i + k) = 10 ^ i * 10 ^ k := Int.pow_add ..
    generalize hQ : (10 : Int) ^ (i + k) = Q at *
    generalize n / 10 = q at *
    generalize n % 10 = r at *
    generalize (10 : Int) ^ i = pi at *
    generalize (10 : Int) ^ k = pk at *
    generalize xs[i]?.getD 0 = x at *
    generalize ys[k]?.getD 0 = y at *
    generalize f (i + k) = fv at *
    generalize Dt.val 10 (ys.take k) = vk at *
    generalize sumTo 10 f N = S at *
    have e1 : r = n - 10 * q := by omega
    rw [e1, hn]
    grind
  · by_cases e : j = i + k
    · omega
    · simp only [if_neg e]; exact h.zero j h1 (by omega)
  · by_cases hk : k < ys.length
    · exact .inl hk
    · have hc : 0 < c := by omega
      rcases h.kle with e | ⟨_, e⟩
      · refine .inr ⟨by omega, ?_⟩
        have hz := h.zero (i + k) (by omega) (Nat.le_refl _)
        rw [List.getElem?_eq_none (by omega : ys.length ≤ k)] at hn
        simp only [Option.getD_none, Int.mul_zero] at hn
        omega
      · omega

/-- The row as a list. -/
theorem row_val (f : Nat → Int) : ∀ N, val 10 ((List.range N).map f) = sumTo 10 f N
  | 0 => rfl
  | N + 1 => by
    rw [List.range_succ, List.map_append, val_append, row_val f N, List.map_cons, List.map_nil, val_cons, val_nil, List.length_map, List.length_range]
    show _ = sumTo 10 f N + 10 ^ N * f N
    simp
theorem row_get (f : Nat → Int) {N j : Nat} (h : j < N) : ((List.range N).map f)[j]?.getD 0 = f j := by simp [h]
theorem row_dgs {f : Nat → Int} (h : ∀ j, 0 ≤ f j ∧ f j < 10) (N : Nat) : Dgs 10 ((List.range N).map f) := by
  intro x hx
  obtain ⟨j, _, rfl⟩ := List.mem_map.1 hx
  exact h j

end Go.Proofs.Dt

namespace Go.Proofs.Tryz
open Go.RowKit Go.Shelf Go.Proofs.Dt

/-- A row of its own holds the integers f 0 .. f (n - 1). -/
theorem row_ints {W : World} {b n : Nat} {f : Nat → Int} (h : W.rowIs b 3 n (fun j => .int .i64 (f j))) : Ints W (.slice (some ⟨b, 0, none⟩) n n) ((List.range n).map f) := by
  refine .inr ⟨b, 0, n, by simp, by simp, h.lt, fun j hj => ?_⟩
  have hj' : j < n := by simpa using hj
  rw [Nat.zero_add, h.cell hj', row_get f hj']

theorem times_below {w wr : World} {b i : Nat} (h : Below w.heap.size w wr) (hb : w.heap.size ≤ b) (v : Value) : Below w.heap.size w (wr.setCell ⟨b, i, none⟩ v) := h.setCell (p := ⟨b, i, none⟩) hb v

/-- Between two rounds, in memory. -/
structure TRow (w : World) (N : Nat) (f : Nat → Int) (wr : World) : Prop where
  row : wr.rowIs w.heap.size 3 N (fun j => .int .i64 (f j))
  below : Below w.heap.size w wr
theorem TRow.set {w wr : World} {N : Nat} {f : Nat → Int} (h : TRow w N f wr) (p : Nat) (x : Int) : TRow w N (fun j => if j = p then x else f j) (wr.setCell ⟨w.heap.size, p, none⟩ (.int .i64 x)) :=
  ⟨(h.row.set p (.int .i64 x)).congr (fun i _ => by by_cases e : i = p <;> simp [e]), h.below.setCell (p := ⟨w.heap.size, p, none⟩) (Nat.le_refl _) _⟩
theorem TRow.drew {w wr : World} {N : Nat} {f : Nat → Int} (h : TRow w N f wr) : TRow w N f wr.drew := ⟨h.row, h.below.trans ⟨rfl, rfl, rfl, Nat.le_refl _, fun _ _ => rfl⟩⟩

set_option maxHeartbeats 4000000 in
set_option maxRecDepth 100000 in
theorem rtimes_any (v u : Value) (a b : Nat) (w : World) (ha : DNum w v a) (hb : DNum w u b) (fa : DLim 500 a) (fb : DLim 500 b) : Calls Tryz.prog 64 #[v, u] w (DPost w (a * b)) := by
  obtain ⟨xs, ix, rx⟩ := ha
  obtain ⟨ys, iy, ry⟩ := hb
  have hlx := fa.len rx
  have hly := fb.len ry
  obtain ⟨av, cv, rfl⟩ := ix.shape
  obtain ⟨au, cu, rfl⟩ := iy.shape
  have HX := Lib.hid ix
  have HY := Lib.hid iy
  have RX := Lib.hid rx
  have RY := Lib.hid ry
  obtain ⟨N, hN⟩ : ∃ N, N = xs.length + ys.length := ⟨_, rfl⟩
  have hNi : (xs.length : Int) + (ys.length : Int) = (N : Int) := by omega
  have hN1 : N ≤ 1000 := by omega
  have HN := Lib.hid hN
  have hmk := fun W => run_make_row' (P := Tryz.prog) 56 3 (.int .i64 0) 8 Tryz.underlying56 info3 rfl .i64 .i64 N (by omega) (by omega) W
  have HS0 : Hid (TRow w N (fun _ => 0) (w.alloc (.cells (madeCells #[.int .i64 0] N) 3))) := ⟨World.rowIs_made w (.int .i64 0) N 3, (Below.refl _ w).alloc (Nat.le_refl _) _⟩
  have mixed : Tryz.prog.follows .mixedOrders = true := by kernel_rfl
  clear ix iy rx ry fa fb hN
  go_enter Tryz.func64, Tryz.ntmps64
  go_wp2_with fail
  clear hmk
  go_loopw [6] (fun i wr => ∃ (k : Nat) (f : Nat → Int), i = .int .i64 (k : Int) ∧ k ≤ xs.length ∧ Hid (RTInv xs ys N k f ∧ TRow w N f wr)) (fun i _ => xs.length - (intOf2 i).toNat)
  case atStart => exact ⟨0, _, rfl, by omega, RTInv.start _ _ _, HS0.out⟩
  case round =>
    clear HS0
    obtain ⟨i, f, rfl, hi, HR⟩ := hrel
    by_cases h1 : i < xs.length
    · obtain ⟨x, hx⟩ : ∃ x, x = xs[i]?.getD 0 := ⟨_, rfl⟩
      obtain ⟨x0, x1⟩ : 0 ≤ x ∧ x < 10 := by rw [hx]; exact RX.out.good.get (by decide) i
      have HXX := Lib.hid hx
      clear hx
      have HU : Hid (RUInv xs ys N i 0 0 f ∧ TRow w N f wr) := ⟨HR.out.1.inner, HR.out.2⟩
      clear HR
      go_wp2_with fail
      go_loopw [7, 8] (fun c k wr2 => ∃ (kk : Nat) (cc : Int) (f2 : Nat → Int), c = .int .i64 cc ∧ k = .int .i64 (kk : Int) ∧ 0 ≤ cc ∧ cc ≤ 9 ∧ kk ≤ ys.length + 1 ∧ Hid (RUInv xs ys N i kk cc f2 ∧ TRow w N f2 wr2)) (fun _ k _ => ys.length + 2 - (intOf2 k).toNat)
      case atStart => exact ⟨0, 0, f, rfl, rfl, by decide, by decide, by omega, HU⟩
      case round =>
        clear HU
        obtain ⟨k, cc, f2, rfl, rfl, hc0, hc9, hkl, HR2⟩ := hrel
        by_cases h2 : k < ys.length
        · obtain ⟨y, hy⟩ : ∃ y, y = ys[k]?.getD 0 := ⟨_, rfl⟩
          obtain ⟨y0, y1⟩ : 0 ≤ y ∧ y < 10 := by rw [hy]; exact RY.out.good.get (by decide) k
          obtain ⟨bx, ox, rfl, hcx⟩ := ints_at (HX.out.below (Nat.le_refl _) HR2.out.2.below) h1
          obtain ⟨by', oy, rfl, hcy⟩ := ints_at (HY.out.below (Nat.le_refl _) HR2.out.2.below) h2
          rw [← HXX.out] at hcx
          rw [← hy] at hcy
          have hkk : k ≤ ys.length := by rcases HR2.out.1.kle with e | ⟨_, e⟩ <;> omega
          have hp : i + k < N := by have := HN.out; omega
          have hcf := HR2.out.2.row.cell hp
          have hff := HR2.out.2.row.frozen (i + k)
          obtain ⟨fv, hfv⟩ : ∃ fv, fv = f2 (i + k) := ⟨_, rfl⟩
          obtain ⟨f0, f1⟩ : 0 ≤ fv ∧ fv < 10 := by rw [hfv]; exact HR2.out.1.dig _
          rw [← hfv] at hcf
          have ep : ((i : Int) + (k : Int)).toNat = i + k := by omega
          have ep2 : (i : Int) + (k : Int) < (N : Int) := by omega
          have HM : Hid (RUInv xs ys N i (k + 1) ((fv + cc + x * y) / 10) (fun j => if j = i + k then (fv + cc + x * y) % 10 else f2 j)) := HR2.out.1.next RX.out.good RY.out.good hp (Or.inl h2) (by rw [← HXX.out, ← hy, ← hfv])
          obtain ⟨z, hz⟩ : ∃ z, x * y = z := ⟨_, rfl⟩
          have z0 : 0 ≤ z := by rw [← hz]; exact Int.mul_nonneg x0 y0
          have z1 : z ≤ 81 := by rw [← hz]; exact Int.le_trans (Int.mul_le_mul (show x ≤ 9 by omega) (show y ≤ 9 by omega) y0 (by decide)) (by decide)
          rw [hz] at HM
          have hk1 : k + 1 ≤ ys.length + 1 := by omega
          obtain ⟨c0, c9⟩ : 0 ≤ (fv + cc + z) / 10 ∧ (fv + cc + z) / 10 ≤ 9 := ⟨HM.out.c0, HM.out.c9⟩
          have HRW : Hid (TRow w N f2 wr) := HR2.out.2
          clear hy hfv HR2
          have hcx' : wr.drew.cell? ⟨bx, ox + i, none⟩ = some (.int .i64 x) := hcx
          have hcy' : wr.drew.cell? ⟨by', oy + k, none⟩ = some (.int .i64 y) := hcy
          have hff' : wr.drew.frozen? ⟨w.heap.size, i + k, none⟩ = false := hff
          have HSX : Hid (TRow w N (fun j => if j = i + k then (fv + cc + z) % 10 else f2 j) (wr.drew.setCell ⟨w.heap.size, i + k, none⟩ (.int .i64 ((fv + cc + z) % 10)))) := HRW.out.drew.set _ _
          go_wp2_with fail
          go_region_held3 (fun w' => w'.cell? ⟨bx, ox + i, none⟩ = some (.int .i64 x) ∧ w'.cell? ⟨by', oy + k, none⟩ = some (.int .i64 y))
            (first | exact ⟨hcx', hcy'⟩)
            (first | fail)
          go_wp2
          go_roundw
          case rel => exact ⟨k + 1, (fv + cc + z) / 10, _, rfl, by go_num, c0, c9, hk1, HM.out, HSX.out⟩
          case measure => simp [intOf2]; omega
        · by_cases h3 : 0 < cc
          · have hkk : k ≤ ys.length := by rcases HR2.out.1.kle with e | ⟨_, e⟩ <;> omega
            have hp : i + k < N := by have := HN.out; omega
            have hcf := HR2.out.2.row.cell hp
            have hff := HR2.out.2.row.frozen (i + k)
            obtain ⟨fv, hfv⟩ : ∃ fv, fv = f2 (i + k) := ⟨_, rfl⟩
            obtain ⟨f0, f1⟩ : 0 ≤ fv ∧ fv < 10 := by rw [hfv]; exact HR2.out.1.dig _
            rw [← hfv] at hcf
            have ep : ((i : Int) + (k : Int)).toNat = i + k := by omega
            have ep2 : (i : Int) + (k : Int) < (N : Int) := by omega
            have hy : (0 : Int) = ys[k]?.getD 0 := by rw [List.getElem?_eq_none (by omega)]; rfl
            have HM : Hid (RUInv xs ys N i (k + 1) ((fv + cc) / 10) (fun j => if j = i + k then (fv + cc) % 10 else f2 j)) := HR2.out.1.next RX.out.good RY.out.good hp (Or.inr h3) (by rw [← HXX.out, ← hy, ← hfv]; simp)
            have hk1 : k + 1 ≤ ys.length + 1 := by rcases HR2.out.1.kle with e | ⟨_, e⟩ <;> omega
            obtain ⟨c0, c9⟩ : 0 ≤ (fv + cc) / 10 ∧ (fv + cc) / 10 ≤ 9 := ⟨HM.out.c0, HM.out.c9⟩
            have HRW : Hid (TRow w N f2 wr) := HR2.out.2
            clear hy hfv HR2
            have HSX : Hid (TRow w N (fun j => if j = i + k then (fv + cc) % 10 else f2 j) (wr.setCell ⟨w.heap.size, i + k, none⟩ (.int .i64 ((fv + cc) % 10)))) := HRW.out.set _ _
            go_wp2
            go_roundw
            case rel => exact ⟨k + 1, (fv + cc) / 10, _, rfl, by go_num, c0, c9, hk1, HM.out, HSX.out⟩
            case measure => simp [intOf2]; omega
          · have HT : Hid (RTInv xs ys N (i + 1) f2 ∧ TRow w N f2 wr) := ⟨HR2.out.1.outer h2 h3, HR2.out.2⟩
            clear HR2
            go_wp2
            go_roundw
            case rel => exact ⟨i + 1, f2, by go_num, by omega, HT⟩
            case measure => simp [intOf2]; omega
    · obtain rfl : i = xs.length := by omega
      have HI := Lib.hid (row_ints HR.out.2.row)
      have HD := Lib.hid (row_dgs HR.out.1.dig N)
      have HV : Hid (val 10 ((List.range N).map f) = ((a * b : Nat) : Int)) := by
        show _ = _
        rw [row_val, HR.out.1.val, List.take_length, RX.out.val, RY.out.val, Int.natCast_mul]
      have HBr := Lib.hid HR.out.2.below
      have hll : ((List.range N).map f).length = N := by simp
      have HLL := Lib.hid hll
      clear hll HR
      go_wp2_with fail
      have HC : Hid (∀ W, W = wr → Calls Tryz.prog 91 #[.slice (some ⟨w.heap.size, 0, none⟩) N N] W (TrimPost (.slice (some ⟨w.heap.size, 0, none⟩) N N) W ((List.range N).map f))) := by
        intro W e; subst e; exact rtrim_any _ (by rw [HLL.out]; omega) HI.out
      refine (HC.out _ rfl).mono ?_
      rintro e w2 ⟨v2, k, rfl, hk, hI, haw, rfl⟩
      go_wp2
      go_ret
      exact ⟨_, rfl, ⟨_, hI, rep_trim HD.out HV.out hk.1 hk.2.1 hk.2.2⟩, fun b hb => haw b (away_at w.heap.size 0 N N b hb), HBr.out⟩

end Go.Proofs.Tryz

namespace Go.Proofs.Dt

/-- Between two rounds: the digits from f on are divided. -/
structure RDInv (xs : List Int) (b N f R : Nat) (g : Nat → Int) : Prop where
  dig : ∀ j, 0 ≤ g j ∧ g j < 10
  quo : ∃ V : Nat, val 10 (xs.drop f) = (V : Int) ∧ R = V % b ∧ sumTo 10 g N = 10 ^ f * ((V / b : Nat) : Int)
  zero : ∀ j, j < f → g j = 0

theorem RDInv.start (xs : List Int) (b N : Nat) : RDInv xs b N xs.length 0 (fun _ => 0) :=
  ⟨fun _ => ⟨by decide, by decide⟩, ⟨0, by rw [List.drop_length]; rfl, (Nat.zero_mod b).symm, by rw [sumTo_zero, Nat.zero_div]; simp⟩, fun _ _ => rfl⟩

theorem RDInv.next {xs : List Int} {b N f R : Nat} {g : Nat → Int} (h : RDInv xs b N f R g) (hf0 : 0 < f) (hf : f ≤ xs.length) (hN : f ≤ N) {x T d : Nat} (hx : xs[f - 1]?.getD 0 = (x : Int)) (hT : x + 10 * R = T + d * b) (hlt : T < b) (hd : d ≤ 9) :
    RDInv xs b N (f - 1) T (fun j => if j = f - 1 then (d : Int) else g j) := by
  obtain ⟨V, hV, hR, hS⟩ := h.quo
  have hb : 0 < b := by omega
  refine ⟨fun j => ?_, ⟨x + 10 * V, ?_, ?_, ?_⟩, fun j hj => ?_⟩
  · by_cases e : j = f - 1
    · simp only [if_pos e]; omega
    · simp only [if_neg e]; exact h.dig j
  · rw [drop_cons (by omega : f - 1 < xs.length), val_cons, hx, show f - 1 + 1 = f by omega, hV]; omega
  · have e : x + 10 * V = T + b * (d + 10 * (V / b)) := by
      have h1 := Nat.mod_add_div V b
      rw [← hR] at h1
      rw [Nat.mul_add, Nat.mul_comm b d, Nat.mul_left_comm]
      omega
    rw [e, Nat.add_mul_mod_self_left, Nat.mod_eq_of_lt hlt]
  · have e : (x + 10 * V) / b = d + 10 * (V / b) := by
      have e : x + 10 * V = T + b * (d + 10 * (V / b)) := by
        have h1 := Nat.mod_add_div V b
        rw [← hR] at h1
        rw [Nat.mul_add, Nat.mul_comm b d, Nat.mul_left_comm]
        omega
      rw [e, Nat.add_mul_div_left _ _ hb, Nat.div_eq_of_lt hlt, Nat.zero_add]
    rw [e, sumTo_upd, if_pos (by omega), hS, h.zero (f - 1) (by omega)]
    obtain ⟨m, rfl⟩ : ∃ m, f = m + 1 := ⟨f - 1, by omega⟩
    rw [Nat.add_sub_cancel, Int.pow_succ, Int.natCast_add, Int.natCast_mul]
    generalize ((V / b : Nat) : Int) = q
    generalize (10 : Int) ^ m = p
    show p * 10 * q + p * ((d : Int) - 0) = p * ((d : Int) + 10 * q)
    grind
  · have e : j ≠ f - 1 := by omega
    simp only [if_neg e]
    exact h.zero j (by omega)

theorem RDInv.done {xs : List Int} {a b N R : Nat} {g : Nat → Int} (h : RDInv xs b N 0 R g) (hx : RepN 10 xs a) : sumTo 10 g N = ((a / b : Nat) : Int) ∧ R = a % b := by
  obtain ⟨V, hV, hR, hS⟩ := h.quo
  rw [List.drop_zero, hx.val] at hV
  obtain rfl : a = V := by omega
  exact ⟨by rw [hS]; simp, hR⟩
theorem RDInv.lt {xs : List Int} {b N f R : Nat} {g : Nat → Int} (h : RDInv xs b N f R g) (hb : 0 < b) : R < b := by
  obtain ⟨V, _, hR, _⟩ := h.quo
  rw [hR]; exact Nat.mod_lt _ hb

/-- A digit ahead of a list, zeros left out. -/
theorem rep_front {zs : List Int} {R x k : Nat} (h : RepN 10 zs R) (hx : x < 10) (hk : k ≤ ((x : Int) :: zs).length) (hz : ∀ j, k ≤ j → j < ((x : Int) :: zs).length → ((x : Int) :: zs)[j]?.getD 0 = 0) (hl : k = 0 ∨ ((x : Int) :: zs)[k - 1]?.getD 0 ≠ 0) :
    RepN 10 (((x : Int) :: zs).take k) (x + 10 * R) :=
  rep_trim (Dgs.cons (by omega) (by omega) h.good) (by rw [val_cons, h.val]; omega) hk hz hl

end Go.Proofs.Dt

namespace Go.Proofs.Tryz
open Go.RowKit Go.Shelf Go.Proofs.Dt

open Classical in
/-- The number of a list of digits. -/
noncomputable def dnumOf (W : World) (v : Value) : Nat := if h : ∃ n, DNum W v n then h.choose else 0
theorem DNum.uniq {W : World} {v : Value} {m n : Nat} (h : DNum W v m) (k : DNum W v n) : m = n := by
  obtain ⟨xs, ix, rx⟩ := h
  obtain ⟨ys, iy, ry⟩ := k
  have := ix.inj iy
  subst this
  have h1 := rx.val
  rw [ry.val] at h1
  omega
theorem dnumOf_eq {W : World} {v : Value} {n : Nat} (h : DNum W v n) : dnumOf W v = n := by
  unfold dnumOf
  have he : ∃ n, DNum W v n := ⟨n, h⟩
  rw [dif_pos he]
  exact he.choose_spec.uniq h
theorem dlim_ten {k b T : Nat} (h : DLim k b) (hT : T < 10 * b) : DLim (k + 1) T := by
  rw [DLim.iff] at *; rw [Nat.pow_succ]; omega

/-- A store into another block leaves a list as it is. -/
theorem DNum.setAway {W : World} {v u : Value} {n b j : Nat} (h : DNum W v n) (ha : Away b v) : DNum (W.setCell ⟨b, j, none⟩ u) v n := by
  obtain ⟨xs, ix, rx⟩ := h
  refine ⟨xs, ?_, rx⟩
  rcases ix with h | ⟨g, off, cap, hv, hcap, hlt, hcell⟩
  · exact .inl h
  · refine .inr ⟨g, off, cap, hv, hcap, by simpa using hlt, fun i hi => ?_⟩
    have hne : g ≠ b := ha _ _ _ hv
    rw [← hcell i hi]
    exact World.cell?_of_block (w := W) (Below.heap_setCell _ _ _ _ (by simpa using hne))
theorem TRow.same {w wr : World} {N : Nat} {f g : Nat → Int} (h : TRow w N f wr) (e : ∀ j, f j = g j) : TRow w N g wr := ⟨h.row.congr (fun i _ => by rw [e i]), h.below⟩
theorem TRow.on {w wr w' : World} {N : Nat} {f : Nat → Int} (h : TRow w N f wr) (hb : Below wr.heap.size wr w') : TRow w N f w' := ⟨h.row.of_block (hb.block _ h.row.lt), h.below.trans (hb.mono h.below.size)⟩
theorem away_bigger {b B : Nat} {v : Value} (h : ∀ k, k < B → Away k v) (hb : b < B) : Away b v := h b hb

set_option maxHeartbeats 8000000 in
set_option maxRecDepth 100000 in
theorem rdivided_any (v u : Value) (a b : Nat) (w : World) (ha : DNum w v a) (hb : DNum w u b) (fa : DLim 500 a) (fb : DLim 500 b) (hb0 : 0 < b) :
    Calls Tryz.prog 93 #[v, u] w fun e w' => ∃ q r, e = .returned (.tuple #[q, r]) ∧ DNum w' q (a / b) ∧ DNum w' r (a % b) ∧ Below w.heap.size w w' := by
  obtain ⟨xs, ix, rx⟩ := ha
  have hlx := fa.len rx
  obtain ⟨av, cv, rfl⟩ := ix.shape
  obtain ⟨au, lu, cu, rfl⟩ := hb.shape
  have HX := Lib.hid ix
  have HY := Lib.hid hb
  have RX := Lib.hid rx
  have FB := Lib.hid fb
  have HB0 := Lib.hid hb0
  obtain ⟨N, hN⟩ : ∃ N, xs.length = N := ⟨_, rfl⟩
  have hN1 : N ≤ 500 := by omega
  have HN := Lib.hid hN
  have hmk := fun W => run_make_row' (P := Tryz.prog) 56 3 (.int .i64 0) 8 Tryz.underlying56 info3 rfl .i64 .i64 N (by omega) (by omega) W
  have HS0 : Hid (TRow w N (fun _ => 0) (w.alloc (.cells (madeCells #[.int .i64 0] N) 3))) := ⟨World.rowIs_made w (.int .i64 0) N 3, (Below.refl _ w).alloc (Nat.le_refl _) _⟩
  obtain ⟨i0, hi, hz0, hz1, hz2⟩ := info_parts info3
  clear ix rx fa fb hb hb0
  rw [hN]
  rw [hN] at HX
  clear hN
  go_enter Tryz.func93, Tryz.ntmps93
  go_wp2_with fail
  clear hmk
  go_loopw [7, 8] (fun r i wr => ∃ (f R : Nat) (g : Nat → Int), i = .int .i64 ((f : Int) - 1) ∧ f ≤ N ∧ Hid (RDInv xs b N f R g ∧ TRow w N g wr ∧ DNum wr r R ∧ Away w.heap.size r)) (fun _ i _ => (intOf2 i + 1).toNat)
  case atStart => exact ⟨N, 0, _, rfl, Nat.le_refl _, by have h := RDInv.start xs b N; rw [HN.out] at h; exact h, HS0.out, ⟨[], Ints.nil _, ⟨Dgs.nil _, Nrm.nil, rfl⟩⟩, Away.nil _⟩
  case round =>
    clear HS0
    obtain ⟨f, R, g, rfl, hf, HR⟩ := hrel
    by_cases hf0 : 0 < f
    · have HF1 : Hid (f - 1 < xs.length) := by show _ < _; rw [HN.out]; omega
      obtain ⟨bx, ox, rfl, hcx⟩ := ints_at (HX.out.below (Nat.le_refl _) HR.out.2.1.below) HF1.out
      have hdx := RX.out.good.get (by decide) (f - 1)
      obtain ⟨x, hx⟩ := Int.eq_ofNat_of_zero_le hdx.1
      rw [hx] at hcx
      have hx9 : x < 10 := by omega
      have HXX : Hid (xs[f - 1]?.getD 0 = (x : Int)) := hx
      clear hdx hx
      have e1 : ((f : Int) - 1).toNat = f - 1 := by omega
      have HT10 : Hid (x + 10 * R < 10 * b) := by have := HR.out.1.lt HB0.out; show _ < _; omega
      obtain ⟨zs, iz, rz⟩ := HR.out.2.2.1
      have HRZ := Lib.hid rz
      have HIZ := Lib.hid iz
      have HRow : Hid (TRow w N g (wr.alloc (.cells #[.int .i64 (x : Int)] 3))) := HR.out.2.1.on ((Below.refl _ wr).alloc (Nat.le_refl _) _)
      have hwlt : w.heap.size < wr.heap.size := HR.out.2.1.row.lt
      clear rz
      rcases iz with ⟨rfl, rfl⟩ | ⟨b1, off, cap, rfl, hcap, hb1, hcs⟩
      · go_wp2_with (at_builtin; go_must (refine wpList_append_own_none rfl _ _ 56 rfl wr.heap.size 3 i0 1 Tryz.underlying56 hi _ _ _ rfl (ownsRow_lit wr _) rfl ?_))
        have HIL : Hid (Ints (wr.alloc (.cells #[.int .i64 (x : Int)] 3)) (.slice (some ⟨wr.heap.size, 0, none⟩) 1 1) [(x : Int)]) := ownsRow_ints (xs := [(x : Int)]) (B := wr.heap.size) (ownsRow_lit wr _)
        have HAL : Hid (Away w.heap.size (.slice (some ⟨wr.heap.size, 0, none⟩) 1 1)) := away_row (ownsRow_lit wr (.int .i64 (x : Int))) _ hwlt
        have HRD : Hid (RDInv xs b N f R g) := HR.out.1
        have HR0 : Hid (RepN 10 ([] : List Int) R) := HRZ.out
        clear HR HIZ HRZ
        generalize wr.alloc (.cells #[.int .i64 (x : Int)] 3) = w2 at HIL HRow ⊢
        go_wp2_with fail
        refine (rtrim_any (xs := [(x : Int)]) _ (by simp) HIL.out).mono ?_
        rintro e w3 ⟨v3, kk, rfl, hk, hI, haw, rfl⟩
        have HST : Hid (TRow w N g w2 ∧ DNum w2 v3 (x + 10 * R) ∧ Away w.heap.size v3) := ⟨HRow.out, ⟨_, hI, rep_front HR0.out hx9 hk.1 hk.2.1 hk.2.2⟩, haw _ HAL.out⟩
        obtain ⟨a3, l3, c3, rfl⟩ := HST.out.2.1.shape
        clear hk hI haw HRow HIL HAL
        go_wp2_with fail
        have hdrop : RDInv xs b N f R g := HRD.out
        go_loopw [7] (fun r wr => ∃ (T d : Nat), d ≤ 9 ∧ Hid (x + 10 * R = T + d * b ∧ TRow w N (fun j => if j = f - 1 then (d : Int) else g j) wr ∧ DNum wr r T ∧ Away w.heap.size r)) (fun r wr => dnumOf wr r)
        case atStart =>
          refine ⟨x + 10 * R, 0, by omega, by omega, HST.out.1.same (fun j => ?_), HST.out.2.1, HST.out.2.2⟩
          by_cases e : j = f - 1
          · rw [if_pos e, e, HRD.out.zero _ (by omega)]; rfl
          · rw [if_neg e]
        case round =>
          clear HST
          obtain ⟨T, d, hd9, HI⟩ := hrel
          obtain ⟨ar, lr, cr, rfl⟩ := HI.out.2.2.1.shape
          have HFT : Hid (DLim 501 T) := dlim_ten FB.out (by have := HI.out.1; have := HT10.out; omega)
          go_wp2_with fail
          refine (rorder_any _ _ T b _ HI.out.2.2.1 (HY.out.below (Nat.le_refl _) HI.out.2.1.below) (HFT.out.mono (by omega))).mono ?_
          rintro e w4 ⟨rfl, hb4⟩
          have HI4 : Hid (x + 10 * R = T + d * b ∧ TRow w N (fun j => if j = f - 1 then (d : Int) else g j) w4 ∧ DNum w4 (.slice ar lr cr) T ∧ Away w.heap.size (.slice ar lr cr)) := ⟨HI.out.1, HI.out.2.1.on hb4, HI.out.2.2.1.below (Nat.le_refl _) hb4, HI.out.2.2.2⟩
          have HM : Hid (dnumOf wr (.slice ar lr cr) = T) := dnumOf_eq HI.out.2.2.1
          clear hb4 HI
          by_cases hge : b ≤ T
          · obtain ⟨c, hc⟩ : ∃ c, c = cmpI T b := ⟨_, rfl⟩
            have hc0 : 0 ≤ c := by rw [hc]; unfold cmpI; rw [if_neg (by omega)]; split <;> decide
            rw [← hc]
            have HG := Lib.hid hge
            have HD9 : Hid (d + 1 ≤ 9) := by
              have h1 := HI4.out.1
              have h2 := HT10.out
              show _ ≤ _
              rcases Nat.lt_or_ge d 9 with h | h
              · omega
              · have : 9 * b ≤ d * b := Nat.mul_le_mul_right _ h
                omega
            clear hc hge
            go_wp2_with fail
            refine (rminus_any _ _ T b _ HI4.out.2.2.1 (HY.out.below (Nat.le_refl _) HI4.out.2.1.below) (HFT.out.mono (by omega)) HG.out).mono ?_
            rintro e w5 ⟨r5, rfl, hr5, haw5, hb5⟩
            obtain ⟨a5, l5, c5, rfl⟩ := hr5.shape
            have HRW5 : Hid (TRow w N (fun j => if j = f - 1 then (d : Int) else g j) w5) := HI4.out.2.1.on hb5
            have HA5 : Hid (Away w.heap.size (.slice a5 l5 c5)) := haw5 _ HI4.out.2.1.row.lt
            have HN5 : Hid (DNum w5 (.slice a5 l5 c5) (T - b)) := hr5
            have HEQ : Hid (x + 10 * R = (T - b) + (d + 1) * b) := by
              have h1 := HI4.out.1
              have h2 := HG.out
              show _ = _
              rw [Nat.add_mul, Nat.one_mul]; omega
            have hcq : w5.cell? ⟨w.heap.size, f - 1, none⟩ = some (.int .i64 (d : Int)) := by
              have h := HRW5.out.row.cell (i := f - 1) (by omega)
              rw [if_pos rfl] at h; exact h
            have hfq := HRW5.out.row.frozen (f - 1)
            have HST2 : Hid (TRow w N (fun j => if j = f - 1 then ((d + 1 : Nat) : Int) else g j) (w5.setCell ⟨w.heap.size, f - 1, none⟩ (.int .i64 ((d : Int) + 1)))) := (HRW5.out.set (f - 1) ((d : Int) + 1)).same (fun j => by by_cases e : j = f - 1 <;> simp [e])
            have HN6 : Hid (DNum (w5.setCell ⟨w.heap.size, f - 1, none⟩ (.int .i64 ((d : Int) + 1))) (.slice a5 l5 c5) (T - b)) := HN5.out.setAway HA5.out
            have HM6 : Hid (dnumOf (w5.setCell ⟨w.heap.size, f - 1, none⟩ (.int .i64 ((d : Int) + 1))) (.slice a5 l5 c5) < dnumOf wr (.slice ar lr cr)) := by
              show _ < _
              rw [dnumOf_eq HN6.out, HM.out]
              have := HG.out
              have := HB0.out
              omega
            clear hr5 haw5 hb5 HI4
            go_wp2
            go_roundw
            case rel => exact ⟨T - b, d + 1, HD9.out, HEQ.out, HST2.out, HN6.out, HA5.out⟩
            case measure => exact HM6.out
          · obtain ⟨c, hc⟩ : ∃ c, c = cmpI T b := ⟨_, rfl⟩
            have hc0 : ¬ 0 ≤ c := by rw [hc]; unfold cmpI; rw [if_pos (by omega)]; decide
            rw [← hc]
            have HS2 : Hid (RDInv xs b N (f - 1) T (fun j => if j = f - 1 then (d : Int) else g j) ∧ TRow w N (fun j => if j = f - 1 then (d : Int) else g j) w4 ∧ DNum w4 (.slice ar lr cr) T ∧ Away w.heap.size (.slice ar lr cr)) :=
              ⟨HRD.out.next hf0 (by have := HF1.out; omega) hf HXX.out HI4.out.1 (by omega) hd9, HI4.out.2⟩
            clear hc hge
            go_wp2
            go_roundw
            case rel => exact ⟨f - 1, T, _, by congr 1; omega, by omega, HS2⟩
            case measure => simp [intOf2]; omega
      · have hlz : zs.length ≤ 1000 := by
          have h1 : DLim 501 R := dlim_ten FB.out (by have := HR.out.1.lt HB0.out; omega)
          have := h1.len HRZ.out
          omega
        have HCS : Hid (∀ (j : Nat) (u : Value), (zs.map (Value.int .i64))[j]? = some u → (wr.alloc (.cells #[.int .i64 (x : Int)] 3)).cell? ((⟨b1, off, none⟩ : Addr).add j) = some u) := by
          intro j u hj
          rw [List.getElem?_map] at hj
          obtain ⟨y, hy, rfl⟩ := Option.map_eq_some_iff.1 hj
          have hjl := (List.getElem?_eq_some_iff.1 hy).1
          rw [Addr.add_lit, World.cell?_alloc_past _ _ _ (by simpa using hb1), hcs j hjl, hy]; rfl
        have HONE : Hid (∀ u ∈ zs.map (Value.int .i64), u.oneCell' = true) := by
          intro u hu
          obtain ⟨y, _, rfl⟩ := List.mem_map.1 hu
          rfl
        clear hcs
        go_wp2_with (at_builtin; go_must (refine wpList_append_own _ rfl _ _ 56 rfl wr.heap.size 3 i0 (.int .i64 0) 1 8 Tryz.underlying56 hi hz0 hz1 hz2 rfl (by decide) _ _ _ rfl (ownsRow_lit wr _) ⟨b1, off, none⟩ zs.length cap (zs.map (Value.int .i64)) rfl (by simp) ?_ ?_ ?_ ?_ ?_ ?_); rotate_right; intro v2 w2 hown2 hgrow2 _)
        · have hown3 : w2.ownsRow wr.heap.size 3 1 v2 ((x : Int) :: zs).length (((x : Int) :: zs).map (Value.int .i64)) := by have h := hown2; rw [Nat.add_comm] at h; exact h
          have HIL : Hid (Ints w2 v2 ((x : Int) :: zs)) := ownsRow_ints hown3
          have HAL : Hid (Away w.heap.size v2) := away_row hown3 _ hwlt
          have HRow2 : Hid (TRow w N g w2) := HR.out.2.1.on (((Below.refl _ wr).alloc (Nat.le_refl _) _).grown hgrow2 (by simp) (fun k e => by cases e; exact Nat.le_refl _))
          have HRD : Hid (RDInv xs b N f R g) := HR.out.1
          clear HR HIZ hown2 hown3 hgrow2 HRow HCS HONE
          obtain ⟨a2, c2, rfl⟩ := HIL.out.shape
          have hl2 : ((x : Int) :: zs).length ≤ 1001 := by simp; omega
          revert HIL HAL hl2
          generalize hL2 : (x : Int) :: zs = l2
          intro HIL HAL hl2
          have HL2 := Lib.hid hL2
          clear hL2
          go_wp2_with fail
          refine (rtrim_any (xs := l2) _ (by omega) HIL.out).mono ?_
          rintro e w3 ⟨v3, kk, rfl, hk, hI, haw, rfl⟩
          have HST : Hid (TRow w N g w2 ∧ DNum w2 v3 (x + 10 * R) ∧ Away w.heap.size v3) := ⟨HRow2.out, ⟨_, hI, by have h := rep_front HRZ.out hx9 (by rw [HL2.out]; exact hk.1) (by rw [HL2.out]; exact hk.2.1) (by rw [HL2.out]; exact hk.2.2); rw [HL2.out] at h; exact h⟩, haw _ HAL.out⟩
          obtain ⟨a3, l3, c3, rfl⟩ := HST.out.2.1.shape
          clear hk hI haw HRow2 HIL HAL
          go_wp2_with fail
          have hdrop : RDInv xs b N f R g := HRD.out
          go_loopw [7] (fun r wr => ∃ (T d : Nat), d ≤ 9 ∧ Hid (x + 10 * R = T + d * b ∧ TRow w N (fun j => if j = f - 1 then (d : Int) else g j) wr ∧ DNum wr r T ∧ Away w.heap.size r)) (fun r wr => dnumOf wr r)
          case atStart =>
            refine ⟨x + 10 * R, 0, by omega, by omega, HST.out.1.same (fun j => ?_), HST.out.2.1, HST.out.2.2⟩
            by_cases e : j = f - 1
            · rw [if_pos e, e, HRD.out.zero _ (by omega)]; rfl
            · rw [if_neg e]
          case round =>
            clear HST
            obtain ⟨T, d, hd9, HI⟩ := hrel
            obtain ⟨ar, lr, cr, rfl⟩ := HI.out.2.2.1.shape
            have HFT : Hid (DLim 501 T) := dlim_ten FB.out (by have := HI.out.1; have := HT10.out; omega)
            go_wp2_with fail
            refine (rorder_any _ _ T b _ HI.out.2.2.1 (HY.out.below (Nat.le_refl _) HI.out.2.1.below) (HFT.out.mono (by omega))).mono ?_
            rintro e w4 ⟨rfl, hb4⟩
            have HI4 : Hid (x + 10 * R = T + d * b ∧ TRow w N (fun j => if j = f - 1 then (d : Int) else g j) w4 ∧ DNum w4 (.slice ar lr cr) T ∧ Away w.heap.size (.slice ar lr cr)) := ⟨HI.out.1, HI.out.2.1.on hb4, HI.out.2.2.1.below (Nat.le_refl _) hb4, HI.out.2.2.2⟩
            have HM : Hid (dnumOf wr (.slice ar lr cr) = T) := dnumOf_eq HI.out.2.2.1
            clear hb4 HI
            by_cases hge : b ≤ T
            · obtain ⟨c, hc⟩ : ∃ c, c = cmpI T b := ⟨_, rfl⟩
              have hc0 : 0 ≤ c := by rw [hc]; unfold cmpI; rw [if_neg (by omega)]; split <;> decide
              rw [← hc]
              have HG := Lib.hid hge
              have HD9 : Hid (d + 1 ≤ 9) := by
                have h1 := HI4.out.1
                have h2 := HT10.out
                show _ ≤ _
                rcases Nat.lt_or_ge d 9 with h | h
                · omega
                · have : 9 * b ≤ d * b := Nat.mul_le_mul_right _ h
                  omega
              clear hc hge
              go_wp2_with fail
              refine (rminus_any _ _ T b _ HI4.out.2.2.1 (HY.out.below (Nat.le_refl _) HI4.out.2.1.below) (HFT.out.mono (by omega)) HG.out).mono ?_
              rintro e w5 ⟨r5, rfl, hr5, haw5, hb5⟩
              obtain ⟨a5, l5, c5, rfl⟩ := hr5.shape
              have HRW5 : Hid (TRow w N (fun j => if j = f - 1 then (d : Int) else g j) w5) := HI4.out.2.1.on hb5
              have HA5 : Hid (Away w.heap.size (.slice a5 l5 c5)) := haw5 _ HI4.out.2.1.row.lt
              have HN5 : Hid (DNum w5 (.slice a5 l5 c5) (T - b)) := hr5
              have HEQ : Hid (x + 10 * R = (T - b) + (d + 1) * b) := by
                have h1 := HI4.out.1
                have h2 := HG.out
                show _ = _
                rw [Nat.add_mul, Nat.one_mul]; omega
              have hcq : w5.cell? ⟨w.heap.size, f - 1, none⟩ = some (.int .i64 (d : Int)) := by
                have h := HRW5.out.row.cell (i := f - 1) (by omega)
                rw [if_pos rfl] at h; exact h
              have hfq := HRW5.out.row.frozen (f - 1)
              have HST2 : Hid (TRow w N (fun j => if j = f - 1 then ((d + 1 : Nat) : Int) else g j) (w5.setCell ⟨w.heap.size, f - 1, none⟩ (.int .i64 ((d : Int) + 1)))) := (HRW5.out.set (f - 1) ((d : Int) + 1)).same (fun j => by by_cases e : j = f - 1 <;> simp [e])
              have HN6 : Hid (DNum (w5.setCell ⟨w.heap.size, f - 1, none⟩ (.int .i64 ((d : Int) + 1))) (.slice a5 l5 c5) (T - b)) := HN5.out.setAway HA5.out
              have HM6 : Hid (dnumOf (w5.setCell ⟨w.heap.size, f - 1, none⟩ (.int .i64 ((d : Int) + 1))) (.slice a5 l5 c5) < dnumOf wr (.slice ar lr cr)) := by
                show _ < _
                rw [dnumOf_eq HN6.out, HM.out]
                have := HG.out
                have := HB0.out
                omega
              clear hr5 haw5 hb5 HI4
              go_wp2
              go_roundw
              case rel => exact ⟨T - b, d + 1, HD9.out, HEQ.out, HST2.out, HN6.out, HA5.out⟩
              case measure => exact HM6.out
            · obtain ⟨c, hc⟩ : ∃ c, c = cmpI T b := ⟨_, rfl⟩
              have hc0 : ¬ 0 ≤ c := by rw [hc]; unfold cmpI; rw [if_pos (by omega)]; decide
              rw [← hc]
              have HS2 : Hid (RDInv xs b N (f - 1) T (fun j => if j = f - 1 then (d : Int) else g j) ∧ TRow w N (fun j => if j = f - 1 then (d : Int) else g j) w4 ∧ DNum w4 (.slice ar lr cr) T ∧ Away w.heap.size (.slice ar lr cr)) :=
                ⟨HRD.out.next hf0 (by have := HF1.out; omega) hf HXX.out HI4.out.1 (by omega) hd9, HI4.out.2⟩
              clear hc hge
              go_wp2
              go_roundw
              case rel => exact ⟨f - 1, T, _, by congr 1; omega, by omega, HS2⟩
              case measure => simp [intOf2]; omega
        all_goals (first | exact HCS.out | exact HONE.out | omega | (unfold maxLen; omega) | (simp; done) | (simp; omega))
    · obtain rfl : f = 0 := by omega
      obtain ⟨ar, lr, cr, rfl⟩ := HR.out.2.2.1.shape
      have HI := Lib.hid (row_ints HR.out.2.1.row)
      have HDn := Lib.hid (HR.out.1.done RX.out)
      have HD := Lib.hid (row_dgs HR.out.1.dig N)
      have HV : Hid (val 10 ((List.range N).map g) = ((a / b : Nat) : Int)) := by show _ = _; rw [row_val, HDn.out.1]
      have HRR : Hid (DNum wr (.slice ar lr cr) (a % b)) := by show DNum _ _ _; rw [← HDn.out.2]; exact HR.out.2.2.1
      have HBr := Lib.hid HR.out.2.1.below
      have hll : ((List.range N).map g).length = N := by simp
      have HLL := Lib.hid hll
      clear hll HR
      go_wp2_with fail
      have HC : Hid (∀ W, W = wr → Calls Tryz.prog 91 #[.slice (some ⟨w.heap.size, 0, none⟩) N N] W (TrimPost (.slice (some ⟨w.heap.size, 0, none⟩) N N) W ((List.range N).map g))) := by
        intro W e; subst e; exact rtrim_any _ (by rw [HLL.out]; omega) HI.out
      refine (HC.out _ rfl).mono ?_
      rintro e w2 ⟨v2, k, rfl, hk, hI, haw, rfl⟩
      go_wp2
      go_ret2
      exact ⟨_, _, rfl, ⟨_, hI, rep_trim HD.out HV.out hk.1 hk.2.1 hk.2.2⟩, HRR.out, HBr.out⟩

end Go.Proofs.Tryz
