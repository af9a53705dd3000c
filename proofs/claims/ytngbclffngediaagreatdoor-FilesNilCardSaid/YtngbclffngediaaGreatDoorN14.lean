/- The page's example. -/
import Derived.Test.YtngbclffngediaaGreatDoorN13
set_option linter.unusedVariables false
namespace Go.Proofs.YtngbclffngediaaGreatDoor
open Go.RowKit
set_option maxRecDepth 20000 in
set_option maxHeartbeats 800000 in
theorem busy_1 (f : Nat) (w : World) (h : w.cell? ⟨f, 10, none⟩ = some (.bool true)) : Calls Tryz.prog 10 #[.pointer (some ⟨f, 0, none⟩)] w fun e w' => e = .returned (.bool true) ∧ w = w' := by
  go_enter Tryz.func10, Tryz.ntmps10
  go_wp2
  go_ret
  exact ⟨rfl, rfl⟩
set_option maxRecDepth 20000 in
set_option maxHeartbeats 800000 in
theorem tries_1 (f : Nat) (w : World) (h : w.cell? ⟨f, 18, none⟩ = some (.int .i64 1)) : Calls Tryz.prog 12 #[.pointer (some ⟨f, 0, none⟩)] w fun e w' => e = .returned (.int .i64 1) ∧ w = w' := by
  go_enter Tryz.func12, Tryz.ntmps12
  go_wp2
  go_ret
  exact ⟨rfl, rfl⟩
theorem two_below {w w' : World} {c f B : Nat} {a : World} (h : Two w w' c f) (hb : Below B a w) (hB : B ≤ w.heap.size) (hc : B ≤ c) (hf : B ≤ f) : Below B a w' :=
  ⟨h.os.trans hb.os, h.tape.trans hb.tape, h.output.trans hb.output, Nat.le_trans hb.size h.size, fun k hk => (h.block k (by omega) (by omega) (by omega)).trans (hb.block k hk)⟩
set_option maxRecDepth 100000 in
set_option maxHeartbeats 3200000 in
theorem awake_1 (w : World) : Calls Tryz.prog 14 #[] w fun e w' => e = .returned (.bool true) ∧ Below w.heap.size w w' := by
  have HB := Lib.hid begin_2
  unfold callV at HB
  go_enter Tryz.func14, Tryz.ntmps14
  go_wp2_with (go_at_call 26; refine (client_1 _).mono ?_; rintro e w1 ⟨f, rfl, ⟨c, hBc, hcf, hca, hk⟩, b1⟩; have H2 := Lib.hid (HB.out f c w1 hcf hca hk); have B1 := Lib.hid b1; clear hca hk b1 HB)
  refine H2.out.mono ?_
  rintro e w2 ⟨v, p, rfl, ⟨g, m, rfl, hg, hl⟩, hk, ht⟩
  have d0 := (blk_cells hk).1
  unfold filesB at d0
  have l0 : w2.cell? ⟨g, 0, none⟩ = some (.int .i64 19) := hl 0 _ rfl
  have l11 : w2.cell? ⟨g, 11, none⟩ = some (.int .u32 0) := hl 11 _ rfl
  have hT := tries_1 f w2 (d0 18)
  have hU := busy_1 f w2 (d0 10)
  have HT := Lib.hid hT
  have HU := Lib.hid hU
  have H3 := Lib.hid ht
  clear hk ht hl d0 hT hU H2
  go_wp2_with (first | (go_at_call 10; refine HU.out.mono ?_; rintro e w' ⟨rfl, rfl⟩) | (go_at_call 12; refine HT.out.mono ?_; rintro e w' ⟨rfl, rfl⟩))
  go_ret
  exact ⟨rfl, two_below H3.out B1.out B1.out.size hBc (by omega)⟩
end Go.Proofs.YtngbclffngediaaGreatDoor
