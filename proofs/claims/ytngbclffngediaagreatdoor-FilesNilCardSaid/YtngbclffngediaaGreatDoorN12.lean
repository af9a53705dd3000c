/- A client begins anew. -/
import Derived.Test.YtngbclffngediaaGreatDoorN11
set_option linter.unusedVariables false
namespace Go.Proofs.YtngbclffngediaaGreatDoor
open Go.RowKit
/-- The client's own closure. -/
def rootedV (f : Nat) : Value := .func (.func 29) #[.pointer (some ⟨f, 0, none⟩)] #[]
theorem CallerAt.set {w : World} {c f j : Nat} {x : Value} (h : CallerAt w c) (hcf : c < f) : CallerAt (w.setCell ⟨f, j, none⟩ x) c := by
  obtain ⟨a, w0, h1, h2, h3, h4⟩ := h
  exact ⟨a, w0, h1, h2, below_set h3 (by omega), (Below.heap_setCell _ _ _ c (by simp; omega)).trans h4⟩
set_option maxRecDepth 100000 in
set_option maxHeartbeats 3200000 in
theorem anew_1 (f c : Nat) (w : World) (hcf : c < f) (hca : CallerAt w c) (h : w.heap[f]? = some (.cells (filesB c 10 ⟨#[47]⟩ true 0 (.pointer none) .nilFunc (.slice none 0 0)) 63 (0, 0))) :
    Calls Tryz.prog 16 #[.pointer (some ⟨f, 0, none⟩)] w fun e w' => e = .returned (.tuple #[]) ∧ ∃ p v, w'.heap[f]? = some (.cells (filesB c 10 ⟨#[47]⟩ true 1 (.pointer (some p)) (rootedV f) v) 63 (0, 0)) ∧ Letter w' v ∧ Two w w' c f := by
  have HR := Lib.hid read_1
  have HP := Lib.hid plan_new
  obtain ⟨d0, f0⟩ := blk_cells h
  unfold filesB at d0
  have d18 : w.cell? ⟨f, 18, none⟩ = some (.int .i64 0) := d0 18
  have k1 := heap_setCell_same w f 18 _ 63 (.int .i64 1) h
  have t1 : Two w (w.setCell ⟨f, 18, none⟩ (.int .i64 1)) c f := (⟨rfl, rfl, rfl, Nat.le_refl _, fun _ _ _ _ => rfl⟩ : Two w w c f).set
  have K1 := Lib.hid k1
  have T1 := Lib.hid t1
  have CA := Lib.hid (hca.set (j := 18) (x := .int .i64 1) hcf)
  clear d0 h hca k1 t1
  go_enter Tryz.func16, Tryz.ntmps16
  go_wp2_with (first
    | (go_at_call 27; refine (HP.out _).mono ?_; rintro e w1 ⟨⟨p, rfl⟩, b1⟩; have k2 := blk_below K1.out b1; obtain ⟨e0, f1⟩ := blk_cells k2; have e19 : w1.cell? ⟨f, 19, none⟩ = some (.pointer none) := e0 19; have e22 : w1.cell? ⟨f, 22, none⟩ = some (.bool false) := e0 22; have K2 := Lib.hid k2; have CA2 := Lib.hid (CA.out.below b1); have T2 := Lib.hid (T1.out.below b1); clear e0 k2 b1)
    | (go_at_call 28; refine (HR.out f c (.pointer (some p)) _ _ rfl (by omega) ((CA2.out.set hcf).set hcf) (by rw [heap_setCell_same _ f 22 _ 63 _ (heap_setCell_same _ f 19 _ 63 _ K2.out)]; simp [filesB])).mono ?_; rintro e w2 ⟨rfl, v, h1, h2, h3⟩))
  go_end0
  refine ⟨rfl, p, v, h1, h2, ?_⟩
  have t2 := (T2.out.set (j := 19) (x := .pointer (some p))).set (j := 22) (x := .bool false)
  exact ⟨h3.os.trans t2.os, h3.tape.trans t2.tape, h3.output.trans t2.output, Nat.le_trans t2.size h3.size, fun k hk a1 a2 => (h3.block k (Nat.lt_of_lt_of_le hk t2.size) a1 a2).trans (t2.block k hk a1 a2)⟩
end Go.Proofs.YtngbclffngediaaGreatDoor
