/- The configurations of one chain of one node: made by the reference, looked at, copied; an atlas, a caller and a client of them. -/
import Derived.Test.YtngbclffngediaaGreatDoorN0
set_option linter.unusedVariables false
namespace Go.Proofs.YtngbclffngediaaGreatDoor
open Go.RowKit
theorem Tryz.info45 : (Tryz.prog.info? 45).map (fun i => (i.zero, i.size, i.bytes)) = some (some (.agg #[.int .i64 0, .int .u64 0, .slice none 0 0, .bool false, .int .i64 0]), 5, 56) := by kernel_rfl

section laws
variable {ops : Array Oper} {rest : List Oper} {o : Oper} {a : Act} {Q : Exit → Act → World → Prop} {W : World}
/-- A list of one node onto nil. -/
theorem wp_append_one (hgd : o.guard = none) (s x : Operand) (ho : o.op = .call { callee := .builtin .append, args := #[s, x], argTypes := #[43, 43] }) (v : Value) (hs : a.eval s = .slice none 0 0) (hx : a.eval x = v) (hv : One W v)
    (h : ∀ v' w', One w' v' → Below W.heap.size W w' → wpList Tryz.prog ops Q rest (a.put o.dst v') w') : wpList Tryz.prog ops Q (o :: rest) a W := by
  obtain ⟨g, c, rfl, hg, hc⟩ := hv
  obtain ⟨i0, hi, hz0, hz1, hz2⟩ := info_parts Tryz.info3
  refine wpList_append_own W hgd s x 43 ho W.heap.size 3 i0 (.int .i64 0) 1 8 Tryz.underlying43 hi hz0 hz1 hz2 rfl (by decide) _ 0 [] hs (World.ownsRow_nil _ _ _ _) ⟨g, 0, none⟩ 1 c [.int .i64 1] hx rfl ?c1 ?c2 (by decide) (by decide) (Nat.le_refl _) ?_
  case c1 =>
    intro j u hj
    match j, hj with
    | 0, hj => simp at hj; subst hj; rw [addr_add]; exact hc
  case c2 => intro u hu; simp at hu; subst hu; rfl
  intro v' w' ho hgr hne
  exact h v' w' (One.own ho rfl) ⟨hgr.os, hgr.tape, hgr.output, hgr.size, fun k hk => hgr.block k hk (by simp [Value.ownBlock])⟩

/-- A list of one configuration of one node. -/
def Confs (w : World) (v : Value) : Prop := ∃ g c n, v = .slice (some ⟨g, 0, none⟩) 1 c ∧ g < w.heap.size ∧ w.cell? ⟨g, 0, none⟩ = some (.int .i64 0) ∧ w.cell? ⟨g, 1, none⟩ = some (.int .u64 1) ∧ w.cell? ⟨g, 2, none⟩ = some n ∧
  w.cell? ⟨g, 3, none⟩ = some (.bool false) ∧ w.cell? ⟨g, 4, none⟩ = some (.int .i64 0) ∧ One w n
theorem Confs.below {w w' : World} {v : Value} (h : Confs w v) (hb : Below w.heap.size w w') : Confs w' v := by
  obtain ⟨g, c, n, rfl, hg, h0, h1, h2, h3, h4, hn⟩ := h
  have hcl := fun j => hb.cell (p := ⟨g, j, none⟩) hg
  exact ⟨g, c, n, rfl, Nat.lt_of_lt_of_le hg hb.size, (hcl _).trans h0, (hcl _).trans h1, (hcl _).trans h2, (hcl _).trans h3, (hcl _).trans h4, hn.below hb⟩

/-- A fresh row of one configuration onto nil. -/
theorem wp_append_conf (hgd : o.guard = none) (s x : Operand) (ho : o.op = .call { callee := .builtin .append, args := #[s, x], argTypes := #[88, 88] }) (v : Value) (hs : a.eval s = .slice none 0 0) (hx : a.eval x = v) (hv : Confs W v)
    (h : ∀ v' w', Confs w' v' → Below W.heap.size W w' → wpList Tryz.prog ops Q rest (a.put o.dst v') w') : wpList Tryz.prog ops Q (o :: rest) a W := by
  obtain ⟨g, c, n, rfl, hg, h0, h1, h2, h3, h4, hn⟩ := hv
  obtain ⟨i0, hi, hz0, hz1, hz2⟩ := info_parts Tryz.info45
  have hn2 := hn
  obtain ⟨g2, c2, rfl, hg2, hc2⟩ := hn
  refine wpList_append_own W hgd s x 88 ho W.heap.size 45 i0 _ 5 56 Tryz.underlying88 hi hz0 hz1 hz2 rfl (by decide) _ 0 [] hs (World.ownsRow_nil _ _ _ _) ⟨g, 0, none⟩ 1 c [.int .i64 0, .int .u64 1, .slice (some ⟨g2, 0, none⟩) 1 c2, .bool false, .int .i64 0] hx rfl ?c1 ?c2 (by decide) (by decide) (Nat.le_refl _) ?_
  case c1 =>
    intro j u hj
    rw [addr_add]
    match j, hj with
    | 0, hj => simp at hj; subst hj; exact h0
    | 1, hj => simp at hj; subst hj; exact h1
    | 2, hj => simp at hj; subst hj; exact h2
    | 3, hj => simp at hj; subst hj; exact h3
    | 4, hj => simp at hj; subst hj; exact h4
  case c2 => intro u hu; simp at hu; rcases hu with rfl | rfl | rfl | rfl | rfl <;> rfl
  intro v' w' hw hgr hne
  have hb : Below W.heap.size W w' := ⟨hgr.os, hgr.tape, hgr.output, hgr.size, fun k hk => hgr.block k hk (by simp [Value.ownBlock])⟩
  refine h v' w' ?_ hb
  rcases hw.2 with ⟨_, h2⟩ | ⟨g', cap, cur, e1, e2, e3, _⟩
  · simp at h2
  · subst e1
    have hk := fun j u hj => hw.cells (g := g') rfl j u hj
    simp only [addr_add] at hk
    exact ⟨g', cap, _, rfl, (Array.getElem?_eq_some_iff.1 e3).1, hk 0 _ rfl, hk 1 _ rfl, hk 2 _ rfl, hk 3 _ rfl, hk 4 _ rfl, hn2.below hb⟩
end laws

set_option maxRecDepth 20000 in
set_option maxHeartbeats 800000 in
theorem all_1 (v : Value) (w : World) (h : Confs w v) : Calls Tryz.prog 151 #[v] w fun e w' => e = .returned (.bool true) ∧ Below w.heap.size w w' := by
  obtain ⟨g, c, n, rfl, hg, h0, h1, h2, h3, h4, hn⟩ := h
  have hn' := hn
  obtain ⟨g2, c2, rfl, hg2, hc2⟩ := hn'
  have hA : Below w.heap.size w (w.alloc (.cells #[.int .i64 0, .int .u64 1, (.slice (some ⟨g2, 0, none⟩) 1 c2), .bool false, .int .i64 0] 45)) := (Below.refl _ _).alloc (Nat.le_refl _) _
  have hblk := heap_alloc_new w (.cells #[.int .i64 0, .int .u64 1, (.slice (some ⟨g2, 0, none⟩) 1 c2), .bool false, .int .i64 0] 45)
  have hR := right_1 _ _ (hn.below hA)
  have hE := fun w1 hw1 => everybody_1 (.slice (some ⟨g2, 0, none⟩) 1 c2) w1 hw1
  have hnA := hn.below hA
  unfold confV at *
  have HR := Lib.hid hR
  have HE := Lib.hid hE
  have HN := Lib.hid hnA
  have HA := Lib.hid hA
  have HB := Lib.hid hblk
  clear hR hE hnA hA hn hblk hg2 hc2
  go_enter Tryz.func151, Tryz.ntmps151
  go_wp2
  refine wp_loop_rounds 2 ?_
  rw [rounds_succ]
  go_wp2_with (first
    | (go_at_call 101; refine HR.out.mono ?_; rintro e w1 ⟨rfl, b1⟩; have hk := blk_below HB.out b1; obtain ⟨c1, f1⟩ := blk_cells hk; have HN1 := Lib.hid (HN.out.below b1); have B1 := Lib.hid b1; clear hk b1)
    | (go_at_call 145; refine (HE.out _ HN1.out).mono ?_; rintro e w2 ⟨n2, rfl, o2, b2⟩; have O2 := Lib.hid o2; obtain ⟨g3, c3, rfl, _, _⟩ := o2; have B2 := Lib.hid b2; clear b2)
    | (at_builtin; refine wp_append_one rfl (.tmp 30) (.tmp 32) rfl _ rfl rfl O2.out ?_; intro v3 w3 o3 b3; have O3 := Lib.hid o3; obtain ⟨g4, c4, rfl, _, _⟩ := o3; have B3 := Lib.hid b3; clear b3))
  rw [rounds_succ]
  go_wp2_with (go_at_call 144; refine (unlike_1 _ _ O3.out).mono ?_; rintro e w' ⟨rfl, rfl⟩)
  go_ret
  exact ⟨rfl, below_trans HA.out (below_trans B1.out (below_trans B2.out B3.out))⟩

theorem heap2 (w : World) (o0 o1 : Obj) : ((w.alloc o0).alloc o1).heap[w.heap.size]? = some o0 ∧ ((w.alloc o0).alloc o1).heap[w.heap.size + 1]? = some o1 ∧ Below w.heap.size w ((w.alloc o0).alloc o1) := by
  refine ⟨?_, ?_, ((Below.refl _ _).alloc (Nat.le_refl _) _).alloc (by simp) _⟩
  · rw [Below.heap_alloc _ _ _ (by simp)]; exact heap_alloc_new w o0
  · have := heap_alloc_new (w.alloc o0) o1
    simpa using this

theorem below_set {B : Nat} {a w : World} {b j : Nat} {x : Value} (h : Below B a w) (hB : B ≤ b) : Below B a (w.setCell ⟨b, j, none⟩ x) :=
  ⟨h.os, h.tape, h.output, Nat.le_trans h.size (by simp), fun k hk => (Below.heap_setCell _ _ _ _ (by simp; omega)).trans (h.block k hk)⟩
theorem One.set {w : World} {g c b j : Nat} {x : Value} (h : One w (.slice (some ⟨g, 0, none⟩) 1 c)) (hne : g ≠ b) : One (w.setCell ⟨b, j, none⟩ x) (.slice (some ⟨g, 0, none⟩) 1 c) := by
  obtain ⟨g', c', e, hg, hc⟩ := h
  cases e
  exact ⟨g, c, rfl, by simpa using hg, by rw [World.cell?_of_block (w := w) (Below.heap_setCell _ _ _ _ (by simp; omega))]; exact hc⟩

set_option maxRecDepth 20000 in
set_option maxHeartbeats 800000 in
theorem own_1 (v : Value) (w : World) (h : One w v) : Calls Tryz.prog 102 #[confV v] w fun e w' => ∃ v', e = .returned (confV v') ∧ One w' v' ∧ Below w.heap.size w w' := by
  have hn' := h
  obtain ⟨g2, c2, rfl, hg2, hc2⟩ := hn'
  obtain ⟨k0, k1, hA⟩ := heap2 w (.cells #[.int .i64 0, .int .u64 1, .slice (some ⟨g2, 0, none⟩) 1 c2, .bool false, .int .i64 0] 45) (.cells #[.int .i64 0, .int .u64 0, .slice none 0 0, .bool false, .int .i64 0] 45)
  have hC := clone_1 _ _ (h.below hA)
  have HC := Lib.hid hC
  have HA := Lib.hid hA
  have K0 := Lib.hid k0
  have K1 := Lib.hid k1
  clear hC hA h hg2 hc2 k0 k1
  unfold confV
  go_enter Tryz.func102, Tryz.ntmps102
  go_wp2_with (go_at_call 146; refine HC.out.mono ?_; rintro e w1 ⟨v', rfl, o1, b1⟩; have O1 := Lib.hid o1; obtain ⟨g3, c3, rfl, _, hone⟩ := o1; obtain ⟨d0, f0⟩ := blk_cells (blk_below K0.out b1); obtain ⟨d1, f1⟩ := blk_cells (blk_below K1.out b1); have B1 := Lib.hid b1; clear b1)
  have n0 : g3 ≠ w.heap.size := by rintro rfl; rw [d0] at hone; simp at hone
  have n1 : g3 ≠ w.heap.size + 1 := by rintro rfl; rw [d1] at hone; simp at hone
  refine bodyPost_ret (v := confV (.slice (some ⟨g3, 0, none⟩) 1 c3)) (by simp [results, Tryz.results102, go_sem, confV, d1, f1]) rfl ⟨_, rfl, ?_, ?_⟩
  · exact (((((O1.out.set n0).set n1).set n1).set n1).set n1).set n1
  · exact below_set (below_set (below_set (below_set (below_set (below_set (below_trans HA.out B1.out) (Nat.le_refl _)) (by omega)) (by omega)) (by omega)) (by omega)) (by omega)

theorem make88 (w : World) : (Instr.makeSlice 88 (.int .i64 1) (.int .i64 1)).run Tryz.prog w = .ok (.slice (some ⟨w.heap.size, 0, none⟩) 1 1) (w.alloc (.cells #[.int .i64 0, .int .u64 0, .slice none 0 0, .bool false, .int .i64 0] 45)) := by
  obtain ⟨i0, hi, hz0, hz1, hz2⟩ := info_parts Tryz.info45
  have h := run_makeSlice (P := Tryz.prog) w 88 45 i0 _ Tryz.underlying88 hi hz0 .i64 .i64 1 1 (by decide) (by decide) (by rw [hz1]; decide) (by rw [hz2]; decide) (by decide)
  have e : madeCells (Value.agg #[.int .i64 0, .int .u64 0, .slice none 0 0, .bool false, .int .i64 0]).cells (Int.toNat 1 * 5) = #[.int .i64 0, .int .u64 0, .slice none 0 0, .bool false, .int .i64 0] := by kernel_rfl
  rw [h, hz1, e]
  rfl
theorem set5 {w : World} {b t : Nat} {a0 a1 a2 a3 a4 x0 x1 x2 x3 x4 : Value} (h : w.heap[b]? = some (.cells #[a0, a1, a2, a3, a4] t (0, 0))) :
    (((((w.setCell ⟨b, 0, none⟩ x0).setCell ⟨b, 1, none⟩ x1).setCell ⟨b, 2, none⟩ x2).setCell ⟨b, 3, none⟩ x3).setCell ⟨b, 4, none⟩ x4).heap[b]? = some (.cells #[x0, x1, x2, x3, x4] t (0, 0)) :=
  heap_setCell_same _ b 4 _ t _ (heap_setCell_same _ b 3 _ t _ (heap_setCell_same _ b 2 _ t _ (heap_setCell_same _ b 1 _ t _ (heap_setCell_same _ b 0 _ t _ h))))

set_option maxRecDepth 20000 in
set_option maxHeartbeats 800000 in
theorem copy_1 (v : Value) (w : World) (h : Confs w v) : Calls Tryz.prog 53 #[v] w fun e w' => ∃ v', e = .returned v' ∧ Confs w' v' ∧ Below w.heap.size w w' := by
  obtain ⟨g, c, n, rfl, hg, h0, h1, h2, h3, h4, hn⟩ := h
  have hn' := hn
  obtain ⟨g2, c2, rfl, hg2, hc2⟩ := hn'
  obtain ⟨k0, k1, hA⟩ := heap2 w (.cells #[.int .i64 0, .int .u64 0, .slice none 0 0, .bool false, .int .i64 0] 45) (.cells #[.int .i64 0, .int .u64 1, .slice (some ⟨g2, 0, none⟩) 1 c2, .bool false, .int .i64 0] 45)
  have hC := own_1 _ _ (hn.below hA)
  unfold confV at hC
  have HC := Lib.hid hC
  have HA := Lib.hid hA
  have K0 := Lib.hid k0
  clear hC hA hn hg2 hc2 k0 k1
  have hm := make88
  go_enter Tryz.func53, Tryz.ntmps53
  go_wp2
  refine wp_loop_rounds 2 ?_
  rw [rounds_succ]
  go_wp2_with (go_at_call 102; refine HC.out.mono ?_; rintro e w1 ⟨v', rfl, o1, b1⟩; have O1 := Lib.hid o1; obtain ⟨g3, c3, rfl, _, hone⟩ := o1; have kb := blk_below K0.out b1; obtain ⟨d0, f0⟩ := blk_cells kb; have KB := Lib.hid kb; clear kb; have B1 := Lib.hid b1; clear b1)
  rw [rounds_succ]
  go_wp2
  go_ret
  have n0 : g3 ≠ w.heap.size := by rintro rfl; rw [d0] at hone; simp at hone
  have hk := set5 (x0 := .int .i64 0) (x1 := .int .u64 1) (x2 := .slice (some ⟨g3, 0, none⟩) 1 c3) (x3 := .bool false) (x4 := .int .i64 0) KB.out
  obtain ⟨e0, _⟩ := blk_cells hk
  have hO := (((((O1.out.set (j := 0) (x := .int .i64 0) n0).set (j := 1) (x := .int .u64 1) n0).set (j := 2) (x := .slice (some ⟨g3, 0, none⟩) 1 c3) n0).set (j := 3) (x := .bool false) n0).set (j := 4) (x := .int .i64 0) n0)
  refine ⟨_, rfl, ⟨w.heap.size, 1, .slice (some ⟨g3, 0, none⟩) 1 c3, rfl, (Array.getElem?_eq_some_iff.1 hk).1, e0 0, e0 1, e0 2, e0 3, e0 4, hO⟩, ?_⟩
  exact below_set (below_set (below_set (below_set (below_set (below_trans HA.out B1.out) (Nat.le_refl _)) (Nat.le_refl _)) (Nat.le_refl _)) (Nat.le_refl _)) (Nat.le_refl _)
end Go.Proofs.YtngbclffngediaaGreatDoor
