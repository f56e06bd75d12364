/- 'append(own, src...)' where src is any slice of integers, nil included: inside a fence. -/
import Derived.Test.YtdjnkaeggnkgeaaGreatDoorSearch
import Derived.Laws.AppendOwnNone
namespace Go.Proofs.Tryz
open Go.RowKit Go.Proofs.Dt Go.Shelf

theorem World.grownBy_same (w : World) (r : Option Nat) : w.grownBy w r := ⟨rfl, rfl, rfl, Nat.le_refl _, fun _ _ _ => rfl⟩

theorem wpListIn_append_src {F : Fence} {n : Nat} (w : World) {ops : Array Oper} {rest : List Oper} {o : Oper} {a : Act} {Q : Exit → Act → World → Prop}
    (hg : o.guard = none) (s x : Operand) (t : TypeId) (hop : o.op = Op.call { callee := Callee.builtin Builtin.append, args := #[s, x], argTypes := #[t, t] })
    (base : Nat) (h1 : Tryz.prog.underlying t = some (.slice 3)) (v : Value) (k : Nat) (xs : List Value) (hs : a.eval s = v) (hown : w.ownsRow base 3 1 v k xs)
    (sv : Value) (zs : List Int) (hx : a.eval x = sv) (hI : Ints w sv zs) (hk : k ≤ 10000) (hz : zs.length ≤ 10000) (b3 : base ≤ w.heap.size)
    (hK : ∀ v' w', w'.ownsRow base 3 1 v' (k + zs.length) (xs ++ zs.map (Value.int .i64)) → w.grownBy w' v.ownBlock → wpListIn F n Tryz.prog ops Q rest (a.put o.dst v') w') :
    wpListIn F n Tryz.prog ops Q (o :: rest) a w := by
  obtain ⟨i0, hi, hz0, hz1, hz2⟩ := info_parts info3
  rcases hI with ⟨rfl, rfl⟩ | ⟨b, off, cap, rfl, hc, hb, hcs⟩
  · refine wpListIn_plain hg fun K hK' => ?_
    have hrun := run_append_owned_none (P := Tryz.prog) (w := w) base t o.type 3 i0 1 h1 hi v k xs hown
    unfold Oper.wpIn
    refine ⟨?_, ?_⟩
    · simp [Oper.about, hop, resolve, Target.leads, Sem.run_pure]
    · rw [Oper.semAt_plain F _ _ (by rw [hop]; intro c hc'; cases hc')]
      simp [execOp, hop, resolve, invoke, builtin, hs, hx, hrun, Result.andThen]
      exact hK' _ _ (hK v w (by simpa using hown) (World.grownBy_same w _))
  · refine wpListIn_append_own w hg s x t hop base 3 i0 (.int .i64 0) 1 8 h1 hi hz0 hz1 hz2 rfl (by decide) v k xs hs hown ⟨b, off, none⟩ zs.length cap (zs.map (Value.int .i64)) hx (by simp) ?_ ?_ ?_ ?_ b3 ?_
    · intro j u hj
      rw [List.getElem?_map] at hj
      obtain ⟨z, hz, rfl⟩ := Option.map_eq_some_iff.1 hj
      have hjl : j < zs.length := (List.getElem?_eq_some_iff.1 hz).1
      have := hcs j hjl
      rw [hz, Option.getD_some] at this
      rw [show (⟨b, off, none⟩ : Addr).add j = ⟨b, off + j, none⟩ by simp [Addr.add]]
      exact this
    · intro u hu
      obtain ⟨z, _, rfl⟩ := List.mem_map.1 hu
      rfl
    · unfold maxLen; omega
    · omega
    · intro v' w' hown' hgrow _
      exact hK v' w' hown' hgrow

end Go.Proofs.Tryz
