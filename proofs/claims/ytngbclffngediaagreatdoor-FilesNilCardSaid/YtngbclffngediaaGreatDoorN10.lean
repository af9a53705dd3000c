/- A client's operation begins. -/
import Derived.Test.YtngbclffngediaaGreatDoorN9
import Derived.Laws.EntriesVeiled
set_option linter.unusedVariables false
namespace Go.Proofs.YtngbclffngediaaGreatDoor
open Go.RowKit
/-- Of the old blocks two alone have turned. -/
structure Two (w w' : World) (c f : Nat) : Prop where
  os : w'.os = w.os
  tape : w'.tape = w.tape
  output : w'.output = w.output
  size : w.heap.size ≤ w'.heap.size
  block : ∀ k, k < w.heap.size → k ≠ c → k ≠ f → w'.heap[k]? = w.heap[k]?
theorem Two.below {w w' w2 : World} {c f : Nat} (h : Two w w' c f) (hb : Below w'.heap.size w' w2) : Two w w2 c f :=
  ⟨hb.os.trans h.os, hb.tape.trans h.tape, hb.output.trans h.output, Nat.le_trans h.size hb.size, fun k hk h1 h2 => (hb.block k (Nat.lt_of_lt_of_le hk h.size)).trans (h.block k hk h1 h2)⟩
theorem Two.set {w w' : World} {c f j : Nat} {x : Value} (h : Two w w' c f) : Two w (w'.setCell ⟨f, j, none⟩ x) c f :=
  ⟨h.os, h.tape, h.output, by simpa using h.size, fun k hk h1 h2 => (Below.heap_setCell _ _ _ k (by simpa using h2)).trans (h.block k hk h1 h2)⟩
theorem Two.of_grown {w w' : World} {c f : Nat} (h : w.grownBy w' (some c)) : Two w w' c f :=
  ⟨h.os, h.tape, h.output, h.size, fun k hk h1 _ => h.block k hk (by intro e; exact h1 (Option.some.inj e))⟩

theorem blk_cell {w w' : World} {b : Nat} (h : w'.heap[b]? = w.heap[b]?) (j : Nat) : w'.cell? ⟨b, j, none⟩ = w.cell? ⟨b, j, none⟩ := World.cell?_of_block (w := w) (w' := w') h
theorem Letter.set {w : World} {g c b j : Nat} {x : Value} (h : Letter w (.slice (some ⟨g, 0, none⟩) 1 c)) (hne : g ≠ b) : Letter (w.setCell ⟨b, j, none⟩ x) (.slice (some ⟨g, 0, none⟩) 1 c) := by
  obtain ⟨g', c', e, hg, hc⟩ := h
  cases e
  exact ⟨g, c, rfl, by simpa using hg, fun j u hj => by rw [World.cell?_of_block (w := w) (Below.heap_setCell _ _ _ _ (by simp; omega))]; exact hc j u hj⟩

set_option maxRecDepth 100000 in
set_option maxHeartbeats 3200000 in
theorem do_1 (f c : Nat) (view next : Value) (w : World) (hnx : next = .func (.func 29) #[.pointer (some ⟨f, 0, none⟩)] #[]) (hcf : c ≠ f) (hca : CallerAt w c) (h : w.heap[f]? = some (.cells (filesB c 10 ⟨#[47]⟩ true 1 view .nilFunc (.slice none 0 0)) 63 (0, 0))) :
    Calls Tryz.prog 40 #[.pointer (some ⟨f, 0, none⟩), opV, next] w fun e w' => e = .returned (.tuple #[]) ∧ ∃ v, w'.heap[f]? = some (.cells (filesB c 10 ⟨#[47]⟩ true 1 view next v) 63 (0, 0)) ∧ Letter w' v ∧ Two w w' c f := by
  subst hnx
  have hcw : c < w.heap.size := by obtain ⟨_, _, _, _, _, h4⟩ := hca; exact (Array.getElem?_eq_some_iff.1 h4).1
  have hfw : f < w.heap.size := (Array.getElem?_eq_some_iff.1 h).1
  have b0 : Below w.heap.size w (w.alloc (.cells #[.int .i64 1, .int .u32 0, .int .u64 0, .slice none 0 0, .int .i64 0] 80)) := (Below.refl _ _).alloc (Nat.le_refl _) _
  have kf := blk_below h b0
  obtain ⟨d0, f0⟩ := blk_cells kf
  unfold filesB at d0
  have d00 : (w.alloc (.cells #[.int .i64 1, .int .u32 0, .int .u64 0, .slice none 0 0, .int .i64 0] 80)).cell? ⟨f, 0, none⟩ = some (.pointer (some ⟨c, 0, none⟩)) := d0 0
  obtain ⟨eo, fo⟩ := blk_cells (heap_alloc_new w (.cells #[.int .i64 1, .int .u32 0, .int .u64 0, .slice none 0 0, .int .i64 0] 80))
  have p0 := eo 0
  have p1 := eo 1
  have p2 := eo 2
  have p3 := eo 3
  have p4 := eo 4
  have HB := Lib.hid (callerBegin_1 c _ (hca.below (b0.drew)))
  unfold opV at *
  have B0 := Lib.hid b0
  have KF := Lib.hid kf
  have hf1 : f < (w.alloc (.cells #[.int .i64 1, .int .u32 0, .int .u64 0, .slice none 0 0, .int .i64 0] 80)).heap.size := by simp; omega
  have ho1 : w.heap.size < (w.alloc (.cells #[.int .i64 1, .int .u32 0, .int .u64 0, .slice none 0 0, .int .i64 0] 80)).heap.size := by simp
  clear d0 f0 h hca b0 kf eo fo
  go_enter Tryz.func40, Tryz.ntmps40
  go_upto_region 1 with fail
  have B1 := B0.out
  have K1 := KF.out
  have C1 := HB.out
  clear HB B0 KF
  generalize w.alloc (.cells #[.int .i64 1, .int .u32 0, .int .u64 0, .slice none 0 0, .int .i64 0] 80) = w1 at d00 p0 p1 p2 p3 p4 hf1 ho1 B1 K1 C1 ⊢
  have r0 : w1.cell? ⟨w.heap.size, 0, none⟩ = some (.int .i64 1) := p0
  have r1 : w1.cell? ⟨w.heap.size, 1, none⟩ = some (.int .u32 0) := p1
  have r2 : w1.cell? ⟨w.heap.size, 2, none⟩ = some (.int .u64 0) := p2
  have r3 : w1.cell? ⟨w.heap.size, 3, none⟩ = some (.slice none 0 0) := p3
  have r4 : w1.cell? ⟨w.heap.size, 4, none⟩ = some (.int .i64 0) := p4
  have hco : c ≠ w.heap.size := by omega
  have BB := Lib.hid B1
  have KK := Lib.hid K1
  have CC := Lib.hid C1
  clear p0 p1 p2 p3 p4 B1 K1 C1
  go_cut [6, 7] (fun s6 s7 wx => s7 = .int .i64 0 ∧ Letter wx s6 ∧ w1.drew.grownBy wx (some c))
  case first =>
    go_region_held3 (fun w' => w'.cell? ⟨f, 0, none⟩ = some (.pointer (some ⟨c, 0, none⟩)) ∧ w'.cell? ⟨w.heap.size, 0, none⟩ = some (.int .i64 1) ∧ w'.cell? ⟨w.heap.size, 1, none⟩ = some (.int .u32 0) ∧ w'.cell? ⟨w.heap.size, 2, none⟩ = some (.int .u64 0) ∧ w'.cell? ⟨w.heap.size, 3, none⟩ = some (.slice none 0 0) ∧ w'.cell? ⟨w.heap.size, 4, none⟩ = some (.int .i64 0)) (first | go_keep | (refine ⟨?_, ?_, ?_, ?_, ?_, ?_⟩ <;> assumption))
      (first | (go_at_call 62; refine CC.out.mono ?_; rintro e w2 ⟨v, rfl, l2, g2⟩; have hb := g2.block w.heap.size ho1 (fun e => hco (Option.some.inj e).symm); have y5 := (blk_cell (g2.block f hf1 (fun e => hcf (Option.some.inj e).symm)) 0).trans d00; have y0 := (blk_cell hb 0).trans r0; have y1 := (blk_cell hb 1).trans r1; have y2 := (blk_cell hb 2).trans r2; have y3 := (blk_cell hb 3).trans r3; have y4 := (blk_cell hb 4).trans r4; have G2 := Lib.hid g2; clear g2 hb))
    all_goals
      go_wp2_with fail
      go_meet
      exact ⟨rfl, l2, G2.out⟩
  case rest =>
    obtain ⟨rfl, l2, g2⟩ := hcut
    have L2 := Lib.hid l2
    obtain ⟨gl, cl, rfl, _, hl0⟩ := l2
    have kf := (g2.block f hf1 (fun e => hcf (Option.some.inj e).symm)).trans KK.out
    obtain ⟨e0, f0⟩ := blk_cells kf
    unfold filesB at e0
    have e23 : wc.cell? ⟨f, 23, none⟩ = some .nilFunc := e0 23
    have e24 : wc.cell? ⟨f, 24, none⟩ = some (.slice none 0 0) := e0 24
    have hgf : gl ≠ f := by
      rintro rfl
      have h1 := hl0 0 (.int .i64 19) rfl
      rw [e0 0] at h1
      simp at h1
    have LS := Lib.hid (L2.out.set (j := 23) (x := .func (.func 29) #[.pointer (some ⟨f, 0, none⟩)] #[]) hgf)
    have KS := Lib.hid (heap_setCell_same wc f 23 _ 63 (.func (.func 29) #[.pointer (some ⟨f, 0, none⟩)] #[]) kf)
    have G2 := Lib.hid g2
    clear e0 kf g2 r0 r1 r2 r3 r4 d00 hl0
    go_wp2_with (at_builtin; refine wp_append_letter rfl (.tmp 31) (.tmp 32) rfl _ rfl rfl LS.out ?_; intro v3 w3 l3 b3; have kb := blk_below KS.out b3; obtain ⟨e3, f3⟩ := blk_cells kb; have e24b : w3.cell? ⟨f, 24, none⟩ = some (.slice none 0 0) := e3 24; have e00b : w3.cell? ⟨f, 0, none⟩ = some (.pointer (some ⟨c, 0, none⟩)) := e3 0; clear e3; have KB := Lib.hid kb; have L3 := Lib.hid l3; obtain ⟨g3, c3, rfl, _, hl3⟩ := l3; have HL3 := Lib.hid hl3; clear hl3; have B3 := Lib.hid b3; clear b3 kb)
    go_end0
    refine ⟨rfl, _, (heap_setCell_same w3 f 24 _ 63 (.slice (some ⟨g3, 0, none⟩) 1 c3) KB.out).trans ?_, L3.out.set ?_, ?_⟩
    · simp [filesB]
    · rintro rfl
      have h1 := HL3.out 0 (.int .i64 19) rfl
      rw [e00b] at h1
      simp at h1
    · have t0 : Two w w1 c f := ⟨BB.out.os, BB.out.tape, BB.out.output, BB.out.size, fun k hk _ _ => BB.out.block k hk⟩
      have t1 : Two w wc c f := ⟨G2.out.os.trans t0.os, G2.out.tape.trans t0.tape, G2.out.output.trans t0.output, Nat.le_trans t0.size G2.out.size, fun k hk h1 h2 => (G2.out.block k (Nat.lt_of_lt_of_le hk t0.size) (fun e => h1 (Option.some.inj e))).trans (t0.block k hk h1 h2)⟩
      exact (t1.set.below B3.out).set
end Go.Proofs.YtngbclffngediaaGreatDoor
