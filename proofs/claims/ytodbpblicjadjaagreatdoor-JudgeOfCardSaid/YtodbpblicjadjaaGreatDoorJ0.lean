/- The helpers and the first calls of JudgeOf: the empty history, rights and the unread world's book. -/
import Derived.Test.YtodbpblicjadjaaGreatDoorProg
import Derived.WalkKit
import Derived.WalkSpells
import Derived.WalkLawsBesides
import Derived.KernelRfl
import Derived.Lib.Hide
import Derived.LoopTactic
import Derived.Deep.LoopGhost
import Derived.Deep.QuietTactic
import Derived.BigQuiet
import Derived.WideMake
set_option linter.unusedVariables false
namespace Go.Proofs.YtodbpblicjadjaaGreatDoor
open Go.RowKit
theorem below_trans {a b c : World} (h : Below a.heap.size a b) (k : Below b.heap.size b c) : Below a.heap.size a c := h.trans (k.mono h.size)
theorem bcell {W w1 : World} (hb : Below W.heap.size W w1) : (∀ b o, b < W.heap.size → w1.cell? ⟨b, o, none⟩ = W.cell? ⟨b, o, none⟩) ∧ (∀ b o, b < W.heap.size → w1.frozen? ⟨b, o, none⟩ = W.frozen? ⟨b, o, none⟩) :=
  ⟨fun b o h => hb.cell (p := ⟨b, o, none⟩) h, fun b o h => hb.frozen (p := ⟨b, o, none⟩) h⟩
/-- The history of no world. -/
def hist0 : Value := .agg #[.int .i64 0, .int .i64 0, .slice none 0 0, .slice none 0 0, .slice none 0 0]
set_option maxHeartbeats 400000 in
theorem of_nil (w : World) : Calls Tryz.prog 21 #[.pointer none] w fun e w' => e = .returned hist0 ∧ Below w.heap.size w w' := by
  go_enter Tryz.func21, Tryz.ntmps21
  go_wp2
  exact bodyPost_ret (v := hist0) (by simp [results, Tryz.results21, go_sem, hist0]) rfl ⟨rfl, (Below.refl _ _).alloc (Nat.le_refl _) _⟩
set_option maxHeartbeats 400000 in
theorem vright_yes (a b : Int) (w : World) (h : 1 ≤ a) (h1 : a ≤ 64) (h2 : 1 ≤ b) (h3 : b ≤ 96) : Calls Tryz.prog 69 #[.agg #[.int .i64 a, .int .i64 b]] w fun e w' => e = .returned (.bool true) ∧ Below w.heap.size w w' := by
  go_enter Tryz.func69, Tryz.ntmps69
  go_wp2
  go_ret
  exact ⟨rfl, (Below.refl _ _).alloc (Nat.le_refl _) _⟩
set_option maxHeartbeats 400000 in
theorem vright_no (b : Int) (w : World) : Calls Tryz.prog 69 #[.agg #[.int .i64 0, .int .i64 b]] w fun e w' => e = .returned (.bool false) ∧ Below w.heap.size w w' := by
  go_enter Tryz.func69, Tryz.ntmps69
  go_wp2
  go_ret
  exact ⟨rfl, (Below.refl _ _).alloc (Nat.le_refl _) _⟩
set_option maxHeartbeats 400000 in
theorem new_no (b : Int) (w : World) : Calls Tryz.prog 44 #[.agg #[.int .i64 0, .int .i64 b]] w fun e w' => e = .returned (.tuple #[.pointer none, .int .i64 1]) ∧ Below w.heap.size w w' := by
  have hb := (Below.refl w.heap.size w).alloc (Nat.le_refl _) (.cells #[.int .i64 0, .int .i64 b] 36)
  go_enter Tryz.func44, Tryz.ntmps44
  go_wp2_with (go_at_call 69; refine (vright_no _ _).mono ?_; rintro e w1 ⟨rfl, b1⟩)
  go_ret2
  exact ⟨rfl, below_trans hb b1⟩
section laws
variable {P : Program} {ops : Array Oper} {rest : List Oper} {o : Oper} {a : Act} {Q : Exit → Act → World → Prop} {W : World}
/-- make(map[K]V). -/
theorem wp_makeMap (hgd : o.guard = none) (t : TypeId) (ho : o.op = .makeMap t none) (h : wpList P ops Q rest (a.put o.dst (.map (some W.heap.size))) (W.alloc (.map #[] 0))) : wpList P ops Q (o :: rest) a W := by
  refine wpList_plain hgd fun K hK => ?_
  unfold Oper.wp
  have hr := run_makeMap (P := P) t W
  simp [execOp, ho, hr, Result.andThen]
  exact hK _ _ h
/-- The first entry of a map literal. -/
theorem wp_insert_first (hgd : o.guard = none) (t : TypeId) (m x v : Operand) (ho : o.op = .insert t m x v) (k e : TypeId) (ht : P.underlying t = some (.map k e)) (hk : P.underlying k = some .string) (r : Nat) (s : ByteArray) (hm : a.eval m = .map (some r))
    (hx : a.eval x = .string s) (h : W.heap[r]? = some (.map #[] 0)) (hn : ∀ W', W.grownBy W' (some r) → wpList P ops Q rest (a.put o.dst undef) W') : wpList P ops Q (o :: rest) a W := by
  refine wpList_plain hgd fun K hK => ?_
  unfold Oper.wp
  have hr := run_mapUpdate_first (P := P) W t k e r 0 s (a.eval v) ht hk h
  simp [execOp, ho, hm, hx, hr, Result.andThen]
  exact hK _ _ (hn _ ⟨rfl, rfl, rfl, by simp, fun q _ hq => by simp [Array.getElem?_setIfInBounds]; intro e; exact absurd (by rw [e]) hq⟩)
end laws
theorem addr_add (g j : Nat) : (⟨g, 0, none⟩ : Addr).add j = ⟨g, j, none⟩ := by unfold Addr.add; split <;> simp_all
theorem below_grown {B : Nat} {a w w' : World} {r : Nat} (h : Below B a w) (hg : w.grownBy w' (some r)) (hB : B ≤ w.heap.size) (hr : B ≤ r) : Below B a w' :=
  h.grown hg hB (fun k hk => by cases hk; exact hr)
set_option maxHeartbeats 400000 in
theorem new_yes (a b : Int) (w : World) (h : 1 ≤ a) (h1 : a ≤ 64) (h2 : 1 ≤ b) (h3 : b ≤ 96) : Calls Tryz.prog 44 #[.agg #[.int .i64 a, .int .i64 b]] w fun e w' => ∃ p, e = .returned (.tuple #[.pointer (some p), .int .i64 0]) ∧ Below w.heap.size w w' := by
  have hb := (Below.refl w.heap.size w).alloc (Nat.le_refl _) (.cells #[.int .i64 a, .int .i64 b] 36)
  go_enter Tryz.func44, Tryz.ntmps44
  go_wp2_with (first
    | (go_at_call 69; refine (vright_yes _ _ _ h h1 h2 h3).mono ?_; rintro e w1 ⟨rfl, b1⟩; obtain ⟨hc, hf⟩ := bcell b1; have hc0 : w1.cell? ⟨w.heap.size, 0, none⟩ = some (.int .i64 a) := (hc _ 0 (by simp)).trans (by simp); have hc1 : w1.cell? ⟨w.heap.size, 1, none⟩ = some (.int .i64 b) := (hc _ 1 (by simp)).trans (by simp); have B1 := Lib.hid (below_trans hb b1); clear b1 hc hf hb)
    | (with_reducible refine wp_makeMap rfl 124 rfl ?_)
    | (with_reducible refine wp_insert_first rfl 124 (.tmp 8) _ (.tmp 9) rfl 9 126 Tryz.underlying124 Tryz.underlying9 w1.heap.size _ rfl rfl (heap_alloc_new w1 _) ?_; intro w2 g2))
  go_ret2
  exact ⟨_, rfl, (below_grown (B1.out.alloc B1.out.size _) g2 (by have := B1.out.size; simp; omega) B1.out.size).alloc (by have := g2.size; have := B1.out.size; simp at *; omega) _⟩

/-- A book that holds nothing: where its block lies, and its ten cells. -/
def Opened (w : World) (p : Addr) (cs : List Value) (w' : World) : Prop :=
  w.heap.size ≤ p.block ∧ p.off = 0 ∧ p.spot = none ∧ w'.heap[p.block]? = some (.cells cs.toArray 108 (0, 0)) ∧ Below w.heap.size w w'

/-- A block known whole, its cells one by one: rules for the walk. -/
theorem blk_cells {w : World} {b t : Nat} {cs : Array Value} (h : w.heap[b]? = some (.cells cs t (0, 0))) : (∀ j, w.cell? ⟨b, j, none⟩ = cs[j]?) ∧ (∀ j, w.frozen? ⟨b, j, none⟩ = false) :=
  ⟨fun j => cell_of_row w b j cs t (0, 0) h, fun j => by simp [World.frozen?, h]⟩
theorem blk_below {w w' : World} {b : Nat} {o : Obj} (h : w.heap[b]? = some o) (hb : Below w.heap.size w w') : w'.heap[b]? = some o := by
  rw [hb.block b (Array.getElem?_eq_some_iff.1 h).1]; exact h
theorem heap5 (w : World) (o0 o1 o2 o3 o4 : Obj) : (((((w.alloc o0).alloc o1).alloc o2).alloc o3).alloc o4).heap[w.heap.size]? = some o0 ∧ (((((w.alloc o0).alloc o1).alloc o2).alloc o3).alloc o4).heap[w.heap.size + 1 + 1 + 1 + 1]? = some o4 ∧
    Below w.heap.size w (((((w.alloc o0).alloc o1).alloc o2).alloc o3).alloc o4) := by
  refine ⟨?_, ?_, (((((Below.refl _ _).alloc (Nat.le_refl _) _).alloc (by simp) _).alloc (by simp; omega) _).alloc (by simp; omega) _).alloc (by simp; omega) _⟩
  · rw [Below.heap_alloc _ _ _ (by simp; omega), Below.heap_alloc _ _ _ (by simp; omega), Below.heap_alloc _ _ _ (by simp; omega), Below.heap_alloc _ _ _ (by simp)]
    exact heap_alloc_new w o0
  · have := heap_alloc_new ((((w.alloc o0).alloc o1).alloc o2).alloc o3) o4
    simpa using this

set_option maxHeartbeats 800000 in
theorem open_0 (w : World) : Calls Tryz.prog 23 #[hist0] w fun e w' => ∃ p a b c, e = .returned (.pointer (some p)) ∧ Opened w p [.int .i64 0, .int .i64 0, .slice none 0 0, .slice none 0 0, .slice none 0 0, a, b, .slice none 0 0, c, .slice none 0 0] w' := by
  unfold hist0
  go_enter Tryz.func23, Tryz.ntmps23
  go_wp2_with (first
    | (with_reducible refine wp_makeMap rfl _ rfl ?_)
    | (go_at_call 44; refine (new_no _ _).mono ?_; rintro e w1 ⟨rfl, b1⟩; obtain ⟨k0, k4, bb⟩ := heap5 w _ _ _ _ _; have k0' := blk_below k0 b1; have k4' := blk_below k4 b1; obtain ⟨c0, f0⟩ := blk_cells k0'; have B1 := Lib.hid (bb.trans (b1.mono bb.size)); have K4 := Lib.hid k4'; clear k0 k4 bb b1 k0' k4' f0))
  refine wp_loop_rounds 1 ?_
  rw [rounds_succ]
  go_wp2
  go_ret
  exact ⟨_, _, _, _, rfl, by simp; omega, rfl, rfl, K4.out, B1.out⟩

set_option maxHeartbeats 800000 in
theorem check_0 (w : World) : Calls Tryz.prog 12 #[hist0] w fun e w' => e = .returned (.slice none 0 0) ∧ Below w.heap.size w w' := by
  have HO := fun w => open_0 w
  unfold hist0 at *
  have HO := Lib.hid HO
  go_enter Tryz.func12, Tryz.ntmps12
  go_wp2_with (go_at_call 23; refine (HO.out _).mono ?_; rintro e w1 ⟨⟨b, o, s⟩, c1, c2, c3, rfl, hp, rfl, rfl, hk, hb⟩; have h0 := blk_below (heap_alloc_new w _) hb; obtain ⟨k0, f0⟩ := blk_cells h0; obtain ⟨k1, f1⟩ := blk_cells hk; have HB := Lib.hid hb; clear hb h0 f0 f1 hk)
  refine wp_loop_rounds 1 ?_
  rw [rounds_succ]
  go_wp2
  refine wp_loop_rounds 1 ?_
  rw [rounds_succ]
  go_wp2
  go_ret
  exact ⟨rfl, below_trans ((Below.refl _ _).alloc (Nat.le_refl _) _) HB.out⟩

set_option maxHeartbeats 800000 in
theorem tree_0 (w : World) : Calls Tryz.prog 10 #[hist0] w fun e w' => e = .returned (.pointer none) ∧ Below w.heap.size w w' := by
  have HO := fun w => open_0 w
  unfold hist0 at *
  have HO := Lib.hid HO
  go_enter Tryz.func10, Tryz.ntmps10
  go_wp2_with (go_at_call 23; refine (HO.out _).mono ?_; rintro e w1 ⟨⟨b, o, s⟩, c1, c2, c3, rfl, hp, rfl, rfl, hk, hb⟩; obtain ⟨k1, f1⟩ := blk_cells hk; have HB := Lib.hid hb; clear hb f1 hk)
  go_ret
  exact ⟨rfl, below_trans ((Below.refl _ _).alloc (Nat.le_refl _) _) HB.out⟩

set_option maxHeartbeats 800000 in
theorem name_5 (w : World) (hg : w.cell? ⟨0, 5, none⟩ = some (.string ⟨#[117, 110, 114, 101, 97, 100]⟩)) : Calls Tryz.prog 20 #[.int .i64 5] w fun e w' => e = .returned (.string ⟨#[117, 110, 114, 101, 97, 100]⟩) ∧ w = w' := by
  go_enter Tryz.func20, Tryz.ntmps20
  go_wp2
  go_ret
  exact ⟨rfl, rfl⟩

def acted0 : Value := .agg #[.int .i64 0, .int .u64 0, .int .i64 0, .int .u32 0, .int .u64 0, .slice none 0 0, .int .i64 0, .int .i64 0, .int .i64 0, .int .i64 0, .bool false, .int .i64 0, .int .u64 0, .slice none 0 0]
set_option maxHeartbeats 800000 in
theorem act_1 (w : World) (b : Nat) (x0 x1 x2 x3 x4 x5 : Value) (hbw : b < w.heap.size) (h : w.cell? ⟨b, 3, none⟩ = some (.slice none 0 0)) :
    Calls Tryz.prog 45 #[.pointer (some ⟨b, 0, none⟩), .agg #[x0, x1, x2, x3, x4, x5]] w fun e w' => e = .returned (.tuple #[acted0, .bool false]) ∧ Below w.heap.size w w' := by
  go_enter Tryz.func45, Tryz.ntmps45
  go_wp2
  refine wp_loop_rounds 1 ?_
  rw [rounds_succ]
  go_wp2
  exact bodyPost_ret (v := .tuple #[acted0, .bool false]) (by simp [results, Tryz.results45, go_sem, acted0]) rfl ⟨rfl, ((Below.refl _ _).alloc (Nat.le_refl _) _).alloc (by simp) _⟩

set_option maxHeartbeats 1600000 in
theorem commit_1 (w : World) (b g : Nat) (y : Array Value) (hy : y = #[.int .i64 1, .int .u64 1, .int .i64 0, .int .u32 0, .int .u64 0, .slice none 0 0, .int .i64 0, .int .i64 0, .int .i64 0, .int .i64 0, .bool false, .int .i64 0, .int .u64 0, .slice none 0 0])
    (hbw : b < w.heap.size) (hgw : g < w.heap.size) (h : w.cell? ⟨b, 2, none⟩ = some (.slice (some ⟨g, 0, none⟩) 1 1))
    (hc : ∀ j, w.cell? ⟨g, j, none⟩ = #[Value.int .i64 0, .int .u64 0, .int .i64 1, .int .u64 1, .int .i64 0, .int .u64 0][j]?) :
    Calls Tryz.prog 46 #[.pointer (some ⟨b, 0, none⟩), .agg y] w fun e w' => e = .returned (.int .i64 0) ∧ Below w.heap.size w w' := by
  subst hy
  go_enter Tryz.func46, Tryz.ntmps46
  go_wp2
  refine wp_loop_rounds 1 ?_
  rw [rounds_succ]
  go_wp2
  go_ret
  exact ⟨rfl, ((Below.refl _ _).alloc (Nat.le_refl _) _).alloc (by simp) _⟩

theorem Tryz.info76 : (Tryz.prog.info? 76).map (fun i => (i.zero, i.size, i.bytes)) = some (some (.agg #[.int .i64 0, .int .i64 0]), 2, 16) := by kernel_rfl

/-- The first finding: the book's list holds it. -/
def Found (w : World) (b : Nat) (cs : Array Value) (k i : Int) (w' : World) : Prop :=
  ∃ g cap, w.heap.size ≤ g ∧ w'.heap[b]? = some (.cells (cs.setIfInBounds 9 (.slice (some ⟨g, 0, none⟩) 1 cap)) 108 (0, 0)) ∧ w'.cell? ⟨g, 0, none⟩ = some (.int .i64 k) ∧ w'.cell? ⟨g, 1, none⟩ = some (.int .i64 i) ∧ w.grownBy w' (some b)

set_option maxHeartbeats 1600000 in
theorem find_1 (w : World) (b : Nat) (k i : Int) (cs : Array Value) (hcs : cs.size = 10) (h9 : cs[9]? = some (.slice none 0 0)) (h : w.heap[b]? = some (.cells cs 108 (0, 0))) :
    Calls Tryz.prog 31 #[.pointer (some ⟨b, 0, none⟩), .int .i64 k, .int .i64 i] w fun e w' => e = .returned (.tuple #[]) ∧ Found w b cs k i w' := by
  have hbw : b < w.heap.size := (Array.getElem?_eq_some_iff.1 h).1
  obtain ⟨hc, hf⟩ := blk_cells h
  have hc9 := (hc 9).trans h9
  obtain ⟨i0, hi, hz0, hz1, hz2⟩ := info_parts Tryz.info76
  clear hc hf
  have H := Lib.hid h
  have HS := Lib.hid hcs
  clear h hcs h9
  go_enter Tryz.func31, Tryz.ntmps31
  go_wp2_with (at_builtin; refine wpList_append_own (w.alloc (.cells #[.int .i64 k, .int .i64 i] 76)) rfl (.tmp 10) (.tmp 14) 47 rfl w.heap.size 76 i0 (.agg #[.int .i64 0, .int .i64 0]) 2 16 Tryz.underlying47 hi hz0 hz1 hz2 rfl (by decide) _ 0 [] rfl (World.ownsRow_nil _ _ _ _) ⟨w.heap.size, 0, none⟩ 1 1 [.int .i64 k, .int .i64 i] rfl rfl ?c1 ?c2 ?c3 ?c4 ?c5 ?_)
  case c1 =>
    intro j u hj
    match j, hj with
    | 0, hj => simp at hj; subst hj; simp [Addr.add]
    | 1, hj => simp at hj; subst hj; simp [Addr.add]
  case c2 => intro u hu; simp at hu; rcases hu with rfl | rfl <;> rfl
  case c3 => decide
  case c4 => decide
  case c5 => simp
  · intro v' w1 hown hgr hne
    have hform : ∃ g cap, v' = .slice (some ⟨g, 0, none⟩) 1 cap ∧ w.heap.size ≤ g := by
      rcases hown.2 with ⟨h1, _⟩ | ⟨g, cap, cur, h1, h2, _⟩
      · exact absurd h1 hne
      · exact ⟨g, cap, h1, h2⟩
    obtain ⟨g, cap, rfl, hg⟩ := hform
    have hk0 := hown.cells (g := g) rfl 0 (.int .i64 k) rfl
    have hk1 := hown.cells (g := g) rfl 1 (.int .i64 i) rfl
    rw [addr_add] at hk0 hk1
    have hb1 : w1.heap[b]? = some (.cells cs 108 (0, 0)) := by
      rw [hgr.block b (by simp; omega) (by simp [Value.ownBlock]), Below.heap_alloc _ _ _ hbw]; exact H.out
    obtain ⟨hc', hf'⟩ := blk_cells hb1
    have hc91 := hc' 9
    have hf91 := hf' 9
    have h99 : (cs[9]?).isSome := by have := HS.out; simp [this]
    obtain ⟨x9, hx9⟩ := Option.isSome_iff_exists.1 h99
    rw [hx9] at hc91
    have K0 := Lib.hid hk0
    have K1 := Lib.hid hk1
    have HB1 := Lib.hid hb1
    have HGR := Lib.hid hgr
    clear hc' hf' hk0 hk1 hb1 hgr hown hx9 h99
    go_wp2
    go_end0
    refine ⟨rfl, g, cap, hg, ?_, ?_, ?_, ?_⟩
    · exact heap_setCell_same w1 b 9 cs 108 _ HB1.out
    · rw [World.cell?_of_block (w := w1) (Below.heap_setCell _ _ _ _ (by simp; omega))]; exact K0.out
    · rw [World.cell?_of_block (w := w1) (Below.heap_setCell _ _ _ _ (by simp; omega))]; exact K1.out
    · have hg2 := HGR.out
      refine ⟨hg2.os, hg2.tape, hg2.output, Nat.le_trans (by simp) (Nat.le_trans hg2.size (by simp)), fun q hq hne => ?_⟩
      rw [Below.heap_setCell _ _ _ _ (by intro e; exact hne (by simp at e; rw [e])), hg2.block q (by simp; omega) (by simp [Value.ownBlock]), Below.heap_alloc _ _ _ hq]
end Go.Proofs.YtodbpblicjadjaaGreatDoor
