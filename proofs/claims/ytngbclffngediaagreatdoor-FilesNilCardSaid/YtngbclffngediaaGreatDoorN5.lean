/- What a caller asks. -/
import Derived.Test.YtngbclffngediaaGreatDoorN5a
import Derived.Deep.DeepCutAuto
import Derived.Deep.RegionHeld3
set_option linter.unusedVariables false
namespace Go.Proofs.YtngbclffngediaaGreatDoor
open Go.RowKit

/-- A caller that has asked for a key's value. -/
def askedC (a r : Nat) : Array Value := #[.int .i64 1, .int .i64 1, .int .u64 1, .int .i64 0, .pointer (some ⟨a, 0, none⟩), .int .i64 1, .int .u32 0, .int .u64 0, .slice none 0 0, .int .i64 0, .pointer (some ⟨r, 0, none⟩), .int .u64 0, .int .i64 0, .int .u64 0, .slice none 0 0]

attribute [local go_sem ↓] storeAt49 loadAt49
attribute [local go_sem] st49_run

set_option maxRecDepth 20000 in
set_option maxHeartbeats 400000 in
theorem addr_1 (c : Nat) (w : World) (h : w.cell? ⟨c, 0, none⟩ = some (.int .i64 1)) : Calls Tryz.prog 32 #[.pointer (some ⟨c, 0, none⟩)] w fun e w' => e = .returned (.int .i64 201) ∧ w = w' := by
  go_enter Tryz.func32, Tryz.ntmps32
  go_wp2
  go_ret
  exact ⟨rfl, rfl⟩

set_option maxRecDepth 100000 in
set_option maxHeartbeats 3200000 in
theorem ask_1 (c a r : Nat) (w : World) (h : AtlasAt w a) (hc : w.heap[c]? = some (.cells (askedC a r) 83 (0, 0))) :
    Calls Tryz.prog 36 #[.pointer (some ⟨c, 0, none⟩)] w fun e w' => ∃ v, e = .returned v ∧ Letter w' v ∧ Below w.heap.size w w' := by
  have HO := Lib.hid of_1
  have HR := Lib.hid reader_1
  unfold confV at HO
  have H := Lib.hid h
  have KC := Lib.hid hc
  obtain ⟨d0, f0⟩ := blk_cells hc
  unfold askedC at d0
  have d4 : w.cell? ⟨c, 4, none⟩ = some (.pointer (some ⟨a, 0, none⟩)) := d0 4
  have d6 : w.cell? ⟨c, 6, none⟩ = some (.int .u32 0) := d0 6
  have hcw : c < w.heap.size := (Array.getElem?_eq_some_iff.1 hc).1
  clear h hc d0 f0
  go_enter Tryz.func36, Tryz.ntmps36
  go_upto_region 1 with fail
  go_cut [3] (fun s3 wx => ∃ b v, s3 = .pointer (some ⟨b, 0, none⟩) ∧ w.heap.size ≤ b ∧ wx.heap[b]? = some (.cells #[.int .i64 0, .int .u64 1, v, .bool false, .int .i64 0] 45 (0, 0)) ∧ Below w.heap.size w wx)
  case first =>
    go_region_law (first
      | (go_simp; go_at_call 35; refine (HO.out _ w.drew (H.out.below (Below.refl _ _).drew)).mono ?_; rintro e w1 ⟨v, rfl, h1, b1⟩; have H1 := Lib.hid h1; obtain ⟨g, n, rfl, _, _⟩ := h1; have B1 := Lib.hid b1; clear b1)
      | (go_simp; go_at_call 35; refine (HO.out _ (w.alloc (.cells #[.int .i64 0, .int .u64 0, .slice none 0 0, .bool false, .int .i64 0] 45)).drew (H.out.below ((Below.refl _ _).alloc (Nat.le_refl _) _).drew)).mono ?_; rintro e w1 ⟨v, rfl, h1, b1⟩; have kb := blk_below (w := (w.alloc (.cells #[.int .i64 0, .int .u64 0, .slice none 0 0, .bool false, .int .i64 0] 45)).drew) (heap_alloc_new w _) b1; obtain ⟨e0, f0⟩ := blk_cells kb; have KB := Lib.hid kb; have H1 := Lib.hid h1; obtain ⟨g, n, rfl, _, _⟩ := h1; have B1 := Lib.hid b1; clear b1 kb))
    all_goals
      go_wp2_with fail
      go_meet
      first
        | exact ⟨_, _, rfl, (below_trans ((Below.refl _ _).drew) B1.out).size, heap_alloc_new w1 _, (below_trans ((Below.refl _ _).drew) B1.out).alloc (below_trans ((Below.refl _ _).drew) B1.out).size _⟩
        | exact ⟨_, _, rfl, Nat.le_refl _, set5 KB.out, below_set (below_set (below_set (below_set (below_set (below_trans (((Below.refl _ _).alloc (Nat.le_refl _) _).drew) B1.out) (Nat.le_refl _)) (Nat.le_refl _)) (Nat.le_refl _)) (Nat.le_refl _)) (Nat.le_refl _)⟩
  case rest =>
    obtain ⟨b, v, rfl, hb, hk, bw⟩ := hcut
    obtain ⟨c0, f0⟩ := blk_cells (blk_below KC.out bw)
    unfold askedC at c0
    obtain ⟨e0, g0⟩ := blk_cells hk
    have q0 : wc.cell? ⟨c, 0, none⟩ = some (.int .i64 1) := c0 0
    have r0 : wc.cell? ⟨b, 0, none⟩ = some (.int .i64 0) := e0 0
    have r1 : wc.cell? ⟨b, 1, none⟩ = some (.int .u64 1) := e0 1
    have hbc : b < wc.heap.size := (Array.getElem?_eq_some_iff.1 hk).1
    have hcc : c < wc.heap.size := Nat.lt_of_lt_of_le hcw bw.size
    have BW := Lib.hid bw
    have HA := Lib.hid addr_1
    clear c0 f0 e0 g0 hk bw hb d4 d6 hcw
    have n0 := World.new_ne wc _ q0
    have n1 := World.new_ne wc _ r0
    have n2 := World.new_ne wc _ r1
    go_upto_region 2 with fail
    go_cut [4] (fun s4 wx => s4 = .pointer (some ⟨wc.heap.size, 0, none⟩) ∧ wx = (wc.alloc (.cells (letterC 0 0 0) 49)).drew)
    case first =>
      go_region_held3 (fun w' => w'.cell? ⟨b, 0, none⟩ = some (.int .i64 0) ∧ w'.cell? ⟨b, 1, none⟩ = some (.int .u64 1) ∧ w'.cell? ⟨c, 0, none⟩ = some (.int .i64 1)) (go_keep)
        (first | (go_at_call 32; refine (HA.out c _ ?_).mono ?_; (simp [*]); rintro e w' ⟨rfl, rfl⟩))
      all_goals
        go_wp2_with fail
        go_meet
        exact ⟨rfl, rfl⟩
    case rest =>
      obtain ⟨rfl, rfl⟩ := hcut
      have bw2 : Below w.heap.size w (wc.alloc (.cells (letterC 0 0 0) 49)).drew := (BW.out.alloc BW.out.size _).drew
      have k4 : (wc.alloc (.cells (letterC 0 0 0) 49)).drew.heap[wc.heap.size]? = some (.cells (letterC 0 0 0) 49 (0, 0)) := heap_alloc_new wc _
      have hb4 := BW.out.size
      clear q0 r0 r1 hbc hcc BW n0 n1 n2
      generalize (wc.alloc (.cells (letterC 0 0 0) 49)).drew = w2 at bw2 k4 ⊢
      generalize wc.heap.size = b4 at hb4 k4 ⊢
      have hcw : c < w.heap.size := (Array.getElem?_eq_some_iff.1 KC.out).1
      obtain ⟨c0, f0⟩ := blk_cells (blk_below KC.out bw2)
      unfold askedC at c0
      have p2 : w2.cell? ⟨c, 2, none⟩ = some (.int .u64 1) := c0 2
      have p4 : w2.cell? ⟨c, 4, none⟩ = some (.pointer (some ⟨a, 0, none⟩)) := c0 4
      have p5 : w2.cell? ⟨c, 5, none⟩ = some (.int .i64 1) := c0 5
      have p6 : w2.cell? ⟨c, 6, none⟩ = some (.int .u32 0) := c0 6
      have p9 : w2.cell? ⟨c, 9, none⟩ = some (.int .i64 0) := c0 9
      have hc2 : c < w2.heap.size := Nat.lt_of_lt_of_le hcw bw2.size
      have H2 := Lib.hid (H.out.below bw2)
      have BW := Lib.hid bw2
      have K4 := Lib.hid k4
      have hne : c ≠ b4 := by omega
      clear c0 f0 hcw bw2 k4
      go_upto_region 4 with fail
      go_cut [44] (fun s44 wx => wx.heap[b4]? = some (.cells (letterC 19 1 1) 49 (0, 0)) ∧ Below w.heap.size w wx)
      case first =>
        go_region_held3 (fun w' => w'.cell? ⟨c, 2, none⟩ = some (.int .u64 1) ∧ w'.cell? ⟨c, 4, none⟩ = some (.pointer (some ⟨a, 0, none⟩)) ∧ w'.cell? ⟨c, 6, none⟩ = some (.int .u32 0) ∧ w'.cell? ⟨c, 9, none⟩ = some (.int .i64 0)) (first | go_keep | (refine ⟨?_, ?_, ?_, ?_⟩ <;> ((repeat rw [World.cell?_of_block (Below.heap_setCell _ _ _ _ hne)]); assumption)))
          (first | (go_at_call 56; refine (HR.out a w2.drew (H2.out.below (Below.refl _ _).drew)).mono ?_; rintro e w3 ⟨rfl, b3⟩; have y2 := (b3.cell (p := ⟨c, 2, none⟩) hc2).trans p2; have y4 := (b3.cell (p := ⟨c, 4, none⟩) hc2).trans p4; have y6 := (b3.cell (p := ⟨c, 6, none⟩) hc2).trans p6; have y9 := (b3.cell (p := ⟨c, 9, none⟩) hc2).trans p9; have kb := blk_below (w := w2.drew) K4.out b3; obtain ⟨e0, f0⟩ := blk_cells kb; have z0 : w3.cell? ⟨b4, 0, none⟩ = some (.int .i64 0) := e0 0; have z2 : w3.cell? ⟨b4, 2, none⟩ = some (.int .i64 0) := e0 2; have z6 : w3.cell? ⟨b4, 6, none⟩ = some (.int .u64 0) := e0 6; have z11 : w3.cell? ⟨b4, 11, none⟩ = some (.int .u32 0) := e0 11; have KB := Lib.hid kb; have B3 := Lib.hid b3; clear e0 kb b3))
        go_wp2_with fail
        go_meet
        exact ⟨letter_block KB.out, below_set (below_set (below_set (below_set (below_trans BW.out (below_trans ((Below.refl _ _).drew) B3.out)) hb4) hb4) hb4) hb4⟩
      case rest =>
        obtain ⟨k4, bw4⟩ := hcut
        have hl := ld49_run _ b4 _ rfl k4
        have BW4 := Lib.hid bw4
        clear p2 p4 p5 p6 p9 hc2 hne k4 bw4 hb4
        go_wp2
        go_ret
        refine ⟨_, rfl, letter_new wc _ (by kernel_rfl), ?_⟩
        exact BW4.out.alloc BW4.out.size _
end Go.Proofs.YtngbclffngediaaGreatDoor
