/- The list of one node: cloned, and looked through. -/
import Derived.Test.YtngbclffngediaaGreatDoorProg
import Derived.WalkKit
import Derived.WalkSpells
import Derived.WalkLawsBesides
import Derived.KernelRfl
import Derived.Lib.Hide
import Derived.LoopTactic
import Derived.Deep.LoopGhost
import Derived.Deep.QuietTactic
import Derived.BigQuiet
import Derived.WideMake
import Derived.Laws.AppendOwn
import Derived.Lib.LazyBuf
set_option linter.unusedVariables false
namespace Go.Proofs.YtngbclffngediaaGreatDoor
open Go.RowKit
theorem below_trans {a b c : World} (h : Below a.heap.size a b) (k : Below b.heap.size b c) : Below a.heap.size a c := h.trans (k.mono h.size)
theorem below_grown {B : Nat} {a w w' : World} {r : Nat} (h : Below B a w) (hg : w.grownBy w' (some r)) (hB : B ≤ w.heap.size) (hr : B ≤ r) : Below B a w' :=
  h.grown hg hB (fun k hk => by cases hk; exact hr)
theorem addr_add (g j : Nat) : (⟨g, 0, none⟩ : Addr).add j = ⟨g, j, none⟩ := by unfold Addr.add; split <;> simp_all
theorem blk_cells {w : World} {b t : Nat} {cs : Array Value} (h : w.heap[b]? = some (.cells cs t (0, 0))) : (∀ j, w.cell? ⟨b, j, none⟩ = cs[j]?) ∧ (∀ j, w.frozen? ⟨b, j, none⟩ = false) :=
  ⟨fun j => cell_of_row w b j cs t (0, 0) h, fun j => by simp [World.frozen?, h]⟩
theorem blk_below {w w' : World} {b : Nat} {o : Obj} (h : w.heap[b]? = some o) (hb : Below w.heap.size w w') : w'.heap[b]? = some o := by
  rw [hb.block b (Array.getElem?_eq_some_iff.1 h).1]; exact h
theorem bcell {W w1 : World} (hb : Below W.heap.size W w1) : (∀ b o, b < W.heap.size → w1.cell? ⟨b, o, none⟩ = W.cell? ⟨b, o, none⟩) ∧ (∀ b o, b < W.heap.size → w1.frozen? ⟨b, o, none⟩ = W.frozen? ⟨b, o, none⟩) :=
  ⟨fun b o h => hb.cell (p := ⟨b, o, none⟩) h, fun b o h => hb.frozen (p := ⟨b, o, none⟩) h⟩
theorem Tryz.info3 : (Tryz.prog.info? 3).map (fun i => (i.zero, i.size, i.bytes)) = some (some (.int .i64 0), 1, 8) := by kernel_rfl

/-- A list of one node: the number 1. -/
def One (w : World) (v : Value) : Prop := ∃ g c, v = .slice (some ⟨g, 0, none⟩) 1 c ∧ g < w.heap.size ∧ w.cell? ⟨g, 0, none⟩ = some (.int .i64 1)
theorem One.below {w w' : World} {v : Value} (h : One w v) (hb : Below w.heap.size w w') : One w' v := by
  obtain ⟨g, c, rfl, hg, hc⟩ := h
  exact ⟨g, c, rfl, Nat.lt_of_lt_of_le hg hb.size, (hb.cell (p := ⟨g, 0, none⟩) hg).trans hc⟩
theorem One.own {w : World} {base : Nat} {v : Value} {x : List Value} (h : w.ownsRow base 3 1 v 1 x) (hx : x = [.int .i64 1]) : One w v := by
  subst hx
  rcases h.2 with ⟨h1, h2⟩ | ⟨g, cap, cur, h1, h2, h3, _⟩
  · simp at h2
  · subst h1
    have := h.cells (g := g) rfl 0 (.int .i64 1) rfl
    rw [addr_add] at this
    exact ⟨g, cap, rfl, (Array.getElem?_eq_some_iff.1 h3).1, this⟩

theorem owns_empty (w : World) : (w.alloc (.cells #[] 3)).ownsRow w.heap.size 3 1 (.slice (some ⟨w.heap.size, 0, none⟩) 0 0) 0 [] :=
  ⟨rfl, .inr ⟨w.heap.size, 0, #[], rfl, Nat.le_refl _, heap_alloc_new w _, by simp, by simp [maxLen], by simp, by simp⟩⟩

theorem q43 (w : World) (a : Option Addr) (l c : Nat) : (binOp .eql 43 (.slice a l c) (.slice none 0 0)).run Tryz.prog w = .ok (.bool a.isNone) w :=
  Lib.run_eql_slice_nil w 43 3 a l c 0 0 Tryz.underlying43

set_option maxRecDepth 20000 in
set_option maxHeartbeats 400000 in
theorem clone_1 (v : Value) (w : World) (h : One w v) : Calls Tryz.prog 146 #[v] w fun e w' => ∃ v', e = .returned v' ∧ One w' v' ∧ Below w.heap.size w w' := by
  obtain ⟨g, c, rfl, hg, hc⟩ := h
  obtain ⟨i0, hi, hz0, hz1, hz2⟩ := info_parts Tryz.info3
  have hq := q43
  go_enter Tryz.func146, Tryz.ntmps146
  go_wp2_with (at_builtin; refine wpList_append_own _ rfl (.tmp 5) (.tmp 6) 43 rfl w.heap.size 3 i0 (.int .i64 0) 1 8 Tryz.underlying43 hi hz0 hz1 hz2 rfl (by decide) _ 0 [] rfl (owns_empty w) ⟨g, 0, none⟩ 1 c [.int .i64 1] rfl rfl ?c1 ?c2 ?c3 ?c4 ?c5 ?_)
  case c1 =>
    intro j u hj
    match j, hj with
    | 0, hj => simp at hj; subst hj; rw [addr_add]; exact (((Below.refl w.heap.size w).alloc (Nat.le_refl _) (.cells #[] 3)).cell (p := ⟨g, 0, none⟩) hg).trans hc
  case c2 => intro u hu; simp at hu; subst hu; rfl
  case c3 => decide
  case c4 => decide
  case c5 => simp
  intro v' w' ho hgr hne
  have o1 := One.own ho rfl
  have b1 : Below w.heap.size w w' := below_grown ((Below.refl _ _).alloc (Nat.le_refl _) _) hgr (by simp) (Nat.le_refl _)
  clear ho hgr hne hq hi hz0 hz1 hz2 hc
  go_wp2
  go_ret
  exact ⟨_, rfl, o1, b1⟩

/-- A chain's configuration of one node. -/
def confV (v : Value) : Value := .agg #[.int .i64 0, .int .u64 1, v, .bool false, .int .i64 0]

set_option maxRecDepth 20000 in
set_option maxHeartbeats 400000 in
theorem index_0 (w : World) (g : Addr) (c : Nat) : Calls Tryz.prog 241 #[.slice (some g) 0 c, .int .i64 1] w fun e w' => e = .returned (.int .i64 (-1)) ∧ w = w' := by
  go_enter Tryz.func241, Tryz.ntmps241
  go_wp2
  refine wp_loop_rounds 1 ?_
  rw [rounds_succ]
  go_wp2
  go_ret
  exact ⟨rfl, rfl⟩

set_option maxRecDepth 20000 in
set_option maxHeartbeats 400000 in
theorem contains_0 (w : World) (g : Addr) (c : Nat) : Calls Tryz.prog 200 #[.slice (some g) 0 c, .int .i64 1] w fun e w' => e = .returned (.bool false) ∧ w = w' := by
  go_enter Tryz.func200, Tryz.ntmps200
  go_wp2_with (go_at_call 241; refine (index_0 _ _ _).mono ?_; rintro e w' ⟨rfl, rfl⟩)
  go_ret
  exact ⟨rfl, rfl⟩

set_option maxRecDepth 20000 in
set_option maxHeartbeats 400000 in
theorem unlike_1 (v : Value) (w : World) (h : One w v) : Calls Tryz.prog 144 #[v] w fun e w' => e = .returned (.bool true) ∧ w = w' := by
  obtain ⟨g, c, rfl, hg, hc⟩ := h
  go_enter Tryz.func144, Tryz.ntmps144
  go_wp2
  refine wp_loop_rounds 2 ?_
  rw [rounds_succ]
  go_wp2_with (first | (go_at_call 200; refine (contains_0 _ _ _).mono ?_; rintro e w' ⟨rfl, rfl⟩) | go_in)
  rw [rounds_succ]
  go_wp2
  go_ret
  exact ⟨rfl, rfl⟩

set_option maxRecDepth 20000 in
set_option maxHeartbeats 400000 in
theorem everybody_1 (v : Value) (w : World) (h : One w v) : Calls Tryz.prog 145 #[confV v] w fun e w' => ∃ v', e = .returned v' ∧ One w' v' ∧ Below w.heap.size w w' := by
  have h0 : Below w.heap.size w (w.alloc (.cells #[.int .i64 0, .int .u64 1, v, .bool false, .int .i64 0] 45)) := (Below.refl _ _).alloc (Nat.le_refl _) _
  have hC := clone_1 v _ (h.below h0)
  have HC := Lib.hid hC
  have H0 := Lib.hid h0
  clear hC h0
  unfold confV
  go_enter Tryz.func145, Tryz.ntmps145
  go_wp2_with (go_at_call 146; refine HC.out.mono ?_; rintro e w' ⟨v', rfl, o1, b1⟩)
  go_ret
  exact ⟨_, rfl, o1, below_trans H0.out b1⟩

set_option maxRecDepth 20000 in
set_option maxHeartbeats 400000 in
theorem right_1 (v : Value) (w : World) (h : One w v) : Calls Tryz.prog 101 #[confV v] w fun e w' => e = .returned (.bool true) ∧ Below w.heap.size w w' := by
  have h0 : Below w.heap.size w (w.alloc (.cells #[.int .i64 0, .int .u64 1, v, .bool false, .int .i64 0] 45)) := (Below.refl _ _).alloc (Nat.le_refl _) _
  have hC := everybody_1 v _ (h.below h0)
  obtain ⟨g, c, rfl, hg, hc⟩ := h
  unfold confV at *
  have HC := Lib.hid hC
  have H0 := Lib.hid h0
  clear hC h0
  go_enter Tryz.func101, Tryz.ntmps101
  go_wp2_with (first | (go_at_call 145; refine HC.out.mono ?_; rintro e w' ⟨v', rfl, o1, b1⟩) | (go_at_call 144; refine (unlike_1 _ _ o1).mono ?_; rintro e w' ⟨rfl, rfl⟩))
  go_ret
  exact ⟨rfl, below_trans H0.out b1⟩
end Go.Proofs.YtngbclffngediaaGreatDoor
