/- The tree, the clean page and the judge's names that JudgeOf reaches. -/
import Derived.Test.YtodbpblicjadjaaGreatDoorJ0
set_option linter.unusedVariables false
namespace Go.Proofs.YtodbpblicjadjaaGreatDoor
open Go.RowKit
def commitA : Array Value := #[.int .i64 0, .int .u64 0, .int .i64 1, .int .u64 1, .int .i64 0, .int .u64 0]
def hist1 (C : Nat) : Value := .agg #[.int .i64 2, .int .i64 2, .slice (some ⟨C, 0, none⟩) 1 1, .slice none 0 0, .slice none 0 0]
/-- The page's example, gone through: one finding. -/
def Opened1 (w : World) (en : Ending) (w' : World) : Prop :=
  ∃ (b g cap : Nat) (cs : Array Value), en = .returned (.pointer (some ⟨b, 0, none⟩)) ∧ w'.heap[b]? = some (.cells cs 108 (0, 0)) ∧ cs[9]? = some (.slice (some ⟨g, 0, none⟩) 1 cap) ∧ w'.cell? ⟨g, 0, none⟩ = some (.int .i64 1) ∧ Below w.heap.size w w'
set_option maxHeartbeats 1600000 in
theorem open_1 (w : World) (C : Nat) (hC : C < w.heap.size) (hc : w.heap[C]? = some (.cells commitA 74 (0, 0))) :
    Calls Tryz.prog 23 #[hist1 C] w (Opened1 w) := by
  unfold hist1
  go_enter Tryz.func23, Tryz.ntmps23
  go_wp2_with (with_reducible refine wp_makeMap rfl _ rfl ?_)
  refine (new_yes _ _ _ (by decide) (by decide) (by decide) (by decide)).mono ?_
  rintro e w1 ⟨p, rfl, b1⟩
  obtain ⟨k0, k4, bb⟩ := heap5 w _ _ _ _ _
  have k0' := blk_below k0 b1
  have k4' := blk_below k4 b1
  obtain ⟨c0, f0⟩ := blk_cells k0'
  obtain ⟨c4, f4⟩ := blk_cells k4'
  have hz := b1.size
  simp at hz
  have hz0 : w.heap.size < w1.heap.size := by omega
  have hz4 : w.heap.size + 1 + 1 + 1 + 1 < w1.heap.size := by omega
  have B1 := Lib.hid (bb.trans (b1.mono bb.size))
  have K4 := Lib.hid k4'
  have HZ := Lib.hid hz
  clear k0 k4 bb b1 k0' k4' hz
  go_wp2_with fail
  have k4 : ((w1.setCell ⟨w.heap.size + 1 + 1 + 1 + 1, 7, none⟩ (.slice (some ⟨w1.heap.size, 0, none⟩) 1 1)).alloc (.cells #[.int .i64 0, .pointer (some p)] 110)).heap[w.heap.size + 1 + 1 + 1 + 1]? = some (.cells #[.int .i64 2, .int .i64 2,
      .slice (some ⟨C, 0, none⟩) 1 1, .slice none 0 0, .slice none 0 0, .map (some (w.heap.size + 1)), .map (some (w.heap.size + 1 + 1)), .slice (some ⟨w1.heap.size, 0, none⟩) 1 1, .map (some (w.heap.size + 1 + 1 + 1)), .slice none 0 0] 108 (0, 0)) := by
    rw [Below.heap_alloc _ _ _ (by simp; omega), heap_setCell_same w1 _ 7 _ 108 _ K4.out]
    rfl
  have bW : Below w.heap.size w ((w1.setCell ⟨w.heap.size + 1 + 1 + 1 + 1, 7, none⟩ (.slice (some ⟨w1.heap.size, 0, none⟩) 1 1)).alloc (.cells #[.int .i64 0, .pointer (some p)] 110)) :=
    (B1.out.setCell (by simp; omega) _).alloc (by simp; omega) _
  have hzW : w.heap.size + 1 + 1 + 1 + 1 < ((w1.setCell ⟨w.heap.size + 1 + 1 + 1 + 1, 7, none⟩ (.slice (some ⟨w1.heap.size, 0, none⟩) 1 1)).alloc (.cells #[.int .i64 0, .pointer (some p)] 110)).heap.size := by simp; omega
  generalize World.alloc _ _ = W at k4 bW hzW ⊢
  have kC := (bW.block C hC).trans hc
  obtain ⟨cC, fC⟩ := blk_cells kC
  have hCW : C < W.heap.size := by omega
  have BW := Lib.hid bW
  have K4W := Lib.hid k4
  have HC := Lib.hid hc
  clear c0 f0 c4 f4 hz0 hz4 bW k4 kC fC hc K4 B1
  unfold commitA at cC
  have hCb : C < w.heap.size + 1 + 1 + 1 + 1 := by omega
  have hwb : w.heap.size ≤ w.heap.size + 1 + 1 + 1 + 1 := by omega
  generalize w.heap.size + 1 + 1 + 1 + 1 = b at *
  refine wp_loop_rounds 2 ?_
  rw [rounds_succ]
  go_wp2_with fail
  have hA := act_1 (W.alloc (.cells #[.int .i64 0, .int .u64 0, .int .i64 1, .int .u64 1, .int .i64 0, .int .u64 0] 74)) b (.int .i64 0) (.int .u64 0) (.int .i64 1) (.int .u64 1) (.int .i64 0) (.int .u64 0) (by simp; omega)
    (by rw [World.cell?_alloc_past _ _ _ hzW]; exact (blk_cells K4W.out).1 3)
  unfold acted0 at hA
  refine hA.mono ?_
  clear hA
  rintro e w2 ⟨rfl, b2⟩
  have kb2 : w2.heap[b]? = _ := blk_below ((Below.heap_alloc W _ b hzW).trans K4W.out) b2
  have k72 := blk_below (heap_alloc_new W _) b2
  have kC2 : w2.heap[C]? = _ := blk_below ((Below.heap_alloc W _ C hCW).trans ((BW.out.block C hC).trans HC.out)) b2
  have hz2 := b2.size
  simp at hz2
  have KB2 := Lib.hid kb2
  have K72 := Lib.hid k72
  have KC2 := Lib.hid kC2
  have B2 := Lib.hid b2
  obtain ⟨c7, f7⟩ := blk_cells k72
  clear kb2 k72 kC2 b2 f7 cC
  go_wp2_with fail
  refine (find_1 _ b 1 0 _ rfl rfl ((Below.heap_alloc w2 _ b (by omega)).trans KB2.out)).mono ?_
  rintro e w3 ⟨rfl, g, cap, hg, kb3, kg0, kg1, gr3⟩
  have k73 : w3.heap[W.heap.size]? = _ := (gr3.block _ (by simp; omega) (by simp; omega)).trans ((Below.heap_alloc w2 _ _ (by omega)).trans K72.out)
  have kC3 : w3.heap[C]? = _ := (gr3.block _ (by simp; omega) (by simp; omega)).trans ((Below.heap_alloc w2 _ _ (by omega)).trans KC2.out)
  have hz3 := gr3.size
  simp at hz3
  obtain ⟨c73, f73⟩ := blk_cells k73
  obtain ⟨cC3, fC3⟩ := blk_cells kC3
  obtain ⟨cb3, fb3⟩ := blk_cells kb3
  unfold commitA at cC3
  have h2 := cb3 2
  simp at h2
  have hb3 : b < w3.heap.size := by omega
  have hC3 : C < w3.heap.size := by omega
  have KB3 := Lib.hid kb3
  have KG0 := Lib.hid kg0
  have GR3 := Lib.hid gr3
  clear c7 kb3 kg0 kg1 gr3 k73 kC3 f73 fC3 fb3 cb3
  go_wp2_with fail
  refine (commit_1 w3 b C _ rfl hb3 hC3 h2 cC3).mono ?_
  rintro e w4 ⟨rfl, b4⟩
  have hz4 := b4.size
  have B4 := Lib.hid b4
  clear b4 c73 cC3 h2
  go_wp2_with fail
  rw [rounds_succ]
  go_wp2
  go_ret
  have g3 := GR3.out
  refine ⟨b, g, cap, _, rfl, blk_below KB3.out B4.out, rfl, (B4.out.cell (World.block_lt_of_cell? w3 _ KG0.out)).trans KG0.out, ?_⟩
  have bA : Below w.heap.size w w3 := (((BW.out.alloc (by omega) _).trans (B2.out.mono (by simp; omega))).alloc (by omega) _).grown g3 (by simp; omega) (fun q hq => by cases hq; exact hwb)
  exact bA.trans (B4.out.mono (by omega))

set_option maxHeartbeats 1600000 in
theorem check_1 (w : World) (C : Nat) (hC : C < w.heap.size) (hc : w.heap[C]? = some (.cells commitA 74 (0, 0))) :
    Calls Tryz.prog 12 #[hist1 C] w fun e w' => ∃ g cap, e = .returned (.slice (some ⟨g, 0, none⟩) 1 cap) ∧ w'.cell? ⟨g, 0, none⟩ = some (.int .i64 1) ∧ Below w.heap.size w w' := by
  have HO := fun w h1 h2 => open_1 w C h1 h2
  unfold hist1 at *
  have HO := Lib.hid HO
  have HC := Lib.hid hc
  clear hc
  go_enter Tryz.func12, Tryz.ntmps12
  go_wp2_with fail
  refine (HO.out _ (by simp; omega) ((Below.heap_alloc w _ C hC).trans HC.out)).mono ?_
  rintro e w1 ⟨b, g, cap, cs, rfl, kb, h9, hg0, hb⟩
  have h0 := blk_below (heap_alloc_new w _) hb
  obtain ⟨k0, f0⟩ := blk_cells h0
  obtain ⟨k1, f1⟩ := blk_cells kb
  have k9 := (k1 9).trans h9
  have HB := Lib.hid hb
  have HG := Lib.hid hg0
  clear hb h0 f0 f1 kb k1 h9 hg0
  go_wp2_with fail
  refine wp_loop_rounds 1 ?_
  rw [rounds_succ]
  go_wp2
  refine wp_loop_rounds 1 ?_
  rw [rounds_succ]
  go_wp2
  go_ret
  exact ⟨g, cap, rfl, HG.out, below_trans ((Below.refl _ _).alloc (Nat.le_refl _) _) HB.out⟩
end Go.Proofs.YtodbpblicjadjaaGreatDoor
