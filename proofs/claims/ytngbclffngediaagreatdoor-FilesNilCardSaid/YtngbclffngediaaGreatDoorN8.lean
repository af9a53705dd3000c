/- A list of one letter onto nil. -/
import Derived.Test.YtngbclffngediaaGreatDoorN7
set_option linter.unusedVariables false
namespace Go.Proofs.YtngbclffngediaaGreatDoor
open Go.RowKit
theorem Tryz.info49 : (Tryz.prog.info? 49).map (fun i => (i.zero, i.size, i.bytes)) = some (some (.agg letterZ), 25, 264) := by kernel_rfl
section laws
variable {ops : Array Oper} {rest : List Oper} {o : Oper} {a : Act} {Q : Exit → Act → World → Prop} {W : World}
theorem letter_one : ∀ u ∈ (letterC 19 1 1).toList, u.oneCell' = true := by
  have h : (letterC 19 1 1).toList.all (·.oneCell') = true := by kernel_rfl
  exact List.all_eq_true.1 h
theorem wp_append_letter (hgd : o.guard = none) (s x : Operand) (ho : o.op = .call { callee := .builtin .append, args := #[s, x], argTypes := #[26, 26] }) (v : Value) (hs : a.eval s = .slice none 0 0) (hx : a.eval x = v) (hv : Letter W v)
    (h : ∀ v' w', Letter w' v' → Below W.heap.size W w' → wpList Tryz.prog ops Q rest (a.put o.dst v') w') : wpList Tryz.prog ops Q (o :: rest) a W := by
  obtain ⟨g, c, rfl, hg, hl⟩ := hv
  obtain ⟨i0, hi, hz0, hz1, hz2⟩ := info_parts Tryz.info49
  refine wpList_append_own W hgd s x 26 ho W.heap.size 49 i0 _ 25 264 Tryz.underlying26 hi hz0 hz1 hz2 (by kernel_rfl) (by decide) _ 0 [] hs (World.ownsRow_nil _ _ _ _) ⟨g, 0, none⟩ 1 c (letterC 19 1 1).toList hx (by kernel_rfl) ?c1 letter_one (by decide) (by decide) (Nat.le_refl _) ?_
  case c1 =>
    intro j u hj
    rw [addr_add]
    exact hl j u (by rw [← Array.getElem?_toList]; exact hj)
  intro v' w' hw hgr hne
  have hb : Below W.heap.size W w' := ⟨hgr.os, hgr.tape, hgr.output, hgr.size, fun k hk => hgr.block k hk (by simp [Value.ownBlock])⟩
  refine h v' w' ?_ hb
  rcases hw.2 with ⟨_, h2⟩ | ⟨g', cap, cur, e1, e2, e3, _⟩
  · simp [letterC] at h2
  · subst e1
    refine ⟨g', cap, rfl, (Array.getElem?_eq_some_iff.1 e3).1, fun j u hj => ?_⟩
    have := hw.cells (g := g') rfl j u (by rw [List.nil_append, Array.getElem?_toList]; exact hj)
    rwa [addr_add] at this
end laws
end Go.Proofs.YtngbclffngediaaGreatDoor
