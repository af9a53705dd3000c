/- A caller begins to read the root's key. -/
import Derived.Test.YtngbclffngediaaGreatDoorN6
set_option linter.unusedVariables false
namespace Go.Proofs.YtngbclffngediaaGreatDoor
open Go.RowKit

theorem asked_block {w : World} {c a r : Nat} (h : w.heap[c]? = some (.cells ((callerC a).setIfInBounds 2 (.int .u64 1)) 83 (0, 0))) :
    ((((((w.setCell ⟨c, 5, none⟩ (.int .i64 1)).setCell ⟨c, 6, none⟩ (.int .u32 0)).setCell ⟨c, 7, none⟩ (.int .u64 0)).setCell ⟨c, 8, none⟩ (.slice none 0 0)).setCell ⟨c, 9, none⟩ (.int .i64 0)).setCell ⟨c, 10, none⟩ (.pointer (some ⟨r, 0, none⟩))).heap[c]? = some (.cells (askedC a r) 83 (0, 0)) := by
  have h1 := heap_setCell_same w c 5 _ 83 (.int .i64 1) h
  have h2 := heap_setCell_same _ c 6 _ 83 (.int .u32 0) h1
  have h3 := heap_setCell_same _ c 7 _ 83 (.int .u64 0) h2
  have h4 := heap_setCell_same _ c 8 _ 83 (.slice none 0 0) h3
  have h5 := heap_setCell_same _ c 9 _ 83 (.int .i64 0) h4
  have h6 := heap_setCell_same _ c 10 _ 83 (.pointer (some ⟨r, 0, none⟩)) h5
  rw [h6]
  simp [callerC, askedC]
theorem grown_set {w w' : World} {c j : Nat} {x : Value} (h : w.grownBy w' (some c)) : w.grownBy (w'.setCell ⟨c, j, none⟩ x) (some c) :=
  ⟨h.os, h.tape, h.output, by simpa using h.size, fun k hk hk2 => (Below.heap_setCell _ _ _ k (by intro e; exact hk2 (by simp at e; rw [e]))).trans (h.block k hk hk2)⟩
theorem grown_below {w w' w2 : World} {c : Nat} (h : w.grownBy w' (some c)) (hb : Below w'.heap.size w' w2) : w.grownBy w2 (some c) :=
  ⟨hb.os.trans h.os, hb.tape.trans h.tape, hb.output.trans h.output, Nat.le_trans h.size hb.size, fun k hk hk2 => (hb.block k (Nat.lt_of_lt_of_le hk h.size)).trans (h.block k hk hk2)⟩

set_option maxRecDepth 100000 in
set_option maxHeartbeats 3200000 in
theorem callerBegin_1 (c : Nat) (w : World) (h : CallerAt w c) : Calls Tryz.prog 62 #[.pointer (some ⟨c, 0, none⟩), opV] w fun e w' => ∃ v, e = .returned (.tuple #[v, .int .i64 0]) ∧ Letter w' v ∧ w.grownBy w' (some c) := by
  obtain ⟨a, w0, ha, hw0, hbw0, hc⟩ := h
  have hcw : c < w.heap.size := (Array.getElem?_eq_some_iff.1 hc).1
  have b0 : Below w.heap.size w (w.alloc (.cells #[.int .i64 1, .int .u32 0, .int .u64 0, .slice none 0 0, .int .i64 0] 80)) := (Below.refl _ _).alloc (Nat.le_refl _) _
  have kc0 := blk_below hc b0
  have ko0 := heap_alloc_new w (.cells #[.int .i64 1, .int .u32 0, .int .u64 0, .slice none 0 0, .int .i64 0] 80)
  have c10 : (w.alloc (.cells #[.int .i64 1, .int .u32 0, .int .u64 0, .slice none 0 0, .int .i64 0] 80)).cell? ⟨c, 10, none⟩ = some (.pointer none) := (blk_cells kc0).1 10
  have HB := Lib.hid (busy_0 c _ c10)
  have HC := Lib.hid check_0
  have HL := Lib.hid clone_nil
  have KC0 := Lib.hid kc0
  have KO0 := Lib.hid ko0
  have B0 := Lib.hid b0
  have HA := Lib.hid ha
  have HW0 := Lib.hid hbw0
  clear kc0 ko0 c10 b0 ha hc hbw0
  unfold opV at *
  go_enter Tryz.func62, Tryz.ntmps62
  go_upto_region 10 with (first
    | (go_at_call 20; refine HB.out.mono ?_; rintro e w' ⟨rfl, rfl⟩)
    | (go_at_call 110; refine (HC.out c _).mono ?_; rintro e w1 ⟨rfl, b1⟩; have kc := blk_below KC0.out b1; have ko := blk_below KO0.out b1; obtain ⟨ec, fc⟩ := blk_cells kc; obtain ⟨eo, fo⟩ := blk_cells ko; unfold callerC at ec; have ec2 : w1.cell? ⟨c, 2, none⟩ = some (.int .u64 0) := ec 2; have KC := Lib.hid kc; have KO := Lib.hid ko; have B1 := Lib.hid b1; clear kc ko b1 ec)
    | (go_at_call 18; refine (HL.out _).mono ?_; rintro e w' ⟨rfl, rfl⟩))
  have hne : c ≠ w.heap.size := by omega
  have kc10 := heap_setCell_same _ c 2 _ 83 (.int .u64 1) ((Below.heap_setCell w1 ⟨w.heap.size, 3, none⟩ (.slice none 0 0) c hne).trans KC.out)
  have ko10 := (Below.heap_setCell (w1.setCell ⟨w.heap.size, 3, none⟩ (.slice none 0 0)) ⟨c, 2, none⟩ (.int .u64 1) w.heap.size (Ne.symm hne)).trans (heap_setCell_same _ w.heap.size 3 _ 80 (.slice none 0 0) KO.out)
  have bw1 := below_trans B0.out B1.out
  have g10 : w.grownBy ((w1.setCell ⟨w.heap.size, 3, none⟩ (.slice none 0 0)).setCell ⟨c, 2, none⟩ (.int .u64 1)) (some c) :=
    ⟨bw1.os, bw1.tape, bw1.output, by simpa using bw1.size, fun k hk hk2 => ((Below.heap_setCell _ _ _ k (by intro e; exact hk2 (by simp at e; rw [e]))).trans (Below.heap_setCell _ _ _ k (by simp; omega))).trans (bw1.block k hk)⟩
  have b10 : Below w0.heap.size w0 ((w1.setCell ⟨w.heap.size, 3, none⟩ (.slice none 0 0)).setCell ⟨c, 2, none⟩ (.int .u64 1)) :=
    below_set (below_set (HW0.out.trans (bw1.mono HW0.out.size)) HW0.out.size) hw0
  clear HB HC HL KC0 KO0 B0 KC KO B1 bw1 ec2 eo fc fo
  have hoc : w.heap.size ≠ c := Ne.symm hne
  generalize (w1.setCell ⟨w.heap.size, 3, none⟩ (.slice none 0 0)).setCell ⟨c, 2, none⟩ (.int .u64 1) = w3 at kc10 ko10 g10 b10 ⊢
  generalize w.heap.size = o at ko10 hoc hne ⊢
  have ho3 : o < w3.heap.size := (Array.getElem?_eq_some_iff.1 ko10).1
  obtain ⟨eo, fo⟩ := blk_cells ko10
  have p0 : w3.cell? ⟨o, 0, none⟩ = some (.int .i64 1) := eo 0
  have p1 : w3.cell? ⟨o, 1, none⟩ = some (.int .u32 0) := eo 1
  have p2 : w3.cell? ⟨o, 2, none⟩ = some (.int .u64 0) := eo 2
  have p3 : w3.cell? ⟨o, 3, none⟩ = some (.slice none 0 0) := eo 3
  have p4 : w3.cell? ⟨o, 4, none⟩ = some (.int .i64 0) := eo 4
  have KC := Lib.hid kc10
  have G := Lib.hid g10
  have B := Lib.hid b10
  clear kc10 ko10 g10 b10 eo fo
  go_cut [33] (fun s33 wx => ∃ r, wx.heap[c]? = some (.cells (askedC a r) 83 (0, 0)) ∧ w.grownBy wx (some c) ∧ Below w0.heap.size w0 wx)
  case first =>
    go_region_held3 (fun w' => w'.cell? ⟨o, 0, none⟩ = some (.int .i64 1) ∧ w'.cell? ⟨o, 1, none⟩ = some (.int .u32 0) ∧ w'.cell? ⟨o, 2, none⟩ = some (.int .u64 0) ∧ w'.cell? ⟨o, 3, none⟩ = some (.slice none 0 0) ∧ w'.cell? ⟨o, 4, none⟩ = some (.int .i64 0)) (first | go_keep | (refine ⟨?_, ?_, ?_, ?_, ?_⟩ <;> ((repeat rw [World.cell?_of_block (Below.heap_setCell _ _ _ _ hoc)]); assumption)))
      (first | (go_at_call 111; refine (latch_new w3.drew).mono ?_; rintro e w4 ⟨rfl, b4⟩; have y0 := (b4.cell (p := ⟨o, 0, none⟩) ho3).trans p0; have y1 := (b4.cell (p := ⟨o, 1, none⟩) ho3).trans p1; have y2 := (b4.cell (p := ⟨o, 2, none⟩) ho3).trans p2; have y3 := (b4.cell (p := ⟨o, 3, none⟩) ho3).trans p3; have y4 := (b4.cell (p := ⟨o, 4, none⟩) ho3).trans p4; have kb := blk_below (w := w3.drew) KC.out b4; obtain ⟨e0, f0⟩ := blk_cells kb; unfold callerC at e0; have z5 : w4.cell? ⟨c, 5, none⟩ = some (.int .i64 0) := e0 5; have z6 : w4.cell? ⟨c, 6, none⟩ = some (.int .u32 0) := e0 6; have z7 : w4.cell? ⟨c, 7, none⟩ = some (.int .u64 0) := e0 7; have z8 : w4.cell? ⟨c, 8, none⟩ = some (.slice none 0 0) := e0 8; have z9 : w4.cell? ⟨c, 9, none⟩ = some (.int .i64 0) := e0 9; have z10 : w4.cell? ⟨c, 10, none⟩ = some (.pointer none) := e0 10; have KB := Lib.hid kb; have B4 := Lib.hid b4; clear e0 kb b4))
    go_wp2_with fail
    go_meet
    have g4 := grown_below (G.out) (below_trans ((Below.refl w3.heap.size w3).drew) B4.out)
    have b4 := B.out.trans ((below_trans ((Below.refl w3.heap.size w3).drew) B4.out).mono B.out.size)
    exact ⟨_, asked_block KB.out, grown_set (grown_set (grown_set (grown_set (grown_set (grown_set g4))))), below_set (below_set (below_set (below_set (below_set (below_set b4 hw0) hw0) hw0) hw0) hw0) hw0⟩
  case rest =>
    obtain ⟨r, kc, g, b⟩ := hcut
    have HK := Lib.hid (ask_1 c a r wc (HA.out.below b) kc)
    have G2 := Lib.hid g
    clear kc g b p0 p1 p2 p3 p4 ho3
    go_wp2_with (go_at_call 36; refine HK.out.mono ?_; rintro e w5 ⟨v, rfl, l5, b5⟩; have L5 := Lib.hid l5; obtain ⟨gl, cl, rfl, _, _⟩ := l5)
    go_ret2
    exact ⟨_, rfl, L5.out, grown_below G2.out b5⟩
end Go.Proofs.YtngbclffngediaaGreatDoor
