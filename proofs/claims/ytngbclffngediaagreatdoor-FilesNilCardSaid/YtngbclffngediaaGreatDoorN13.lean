/- A client begins a call. -/
import Derived.Test.YtngbclffngediaaGreatDoorN12
set_option linter.unusedVariables false
namespace Go.Proofs.YtngbclffngediaaGreatDoor
open Go.RowKit
/-- The call of the page's example. -/
def callV : Value := .agg #[.int .i64 10, .string ⟨#[47]⟩, .string ⟨#[]⟩, .int .i64 0, .int .i64 0, .slice none 0 0]
set_option maxRecDepth 20000 in
set_option maxHeartbeats 800000 in
theorem ownCall_1 (w : World) : Calls Tryz.prog 15 #[callV] w fun e w' => e = .returned callV ∧ Below w.heap.size w w' := by
  obtain ⟨k0, k1, hA⟩ := heap2 w (.cells #[.int .i64 10, .string ⟨#[47]⟩, .string ⟨#[]⟩, .int .i64 0, .int .i64 0, .slice none 0 0] 24) (.cells #[.int .i64 0, .string ⟨#[]⟩, .string ⟨#[]⟩, .int .i64 0, .int .i64 0, .slice none 0 0] 24)
  have HL := Lib.hid clone_nil
  clear hA k0 k1
  unfold callV
  go_enter Tryz.func15, Tryz.ntmps15
  go_wp2_with (go_at_call 18; refine (HL.out _).mono ?_; rintro e w' ⟨rfl, rfl⟩)
  refine bodyPost_ret (v := callV) (by simp [results, Tryz.results15, go_sem, callV]) rfl ⟨rfl, ?_⟩
  exact (heap2 w _ _).2.2

/-- Stores into one block, one behind the other. -/
def setsOf (w : World) (f : Nat) (l : List (Nat × Value)) : World := l.foldl (fun w p => w.setCell ⟨f, p.1, none⟩ p.2) w
theorem heap_sets {w : World} {f t : Nat} {cs : Array Value} (l : List (Nat × Value)) (h : w.heap[f]? = some (.cells cs t (0, 0))) :
    (setsOf w f l).heap[f]? = some (.cells (l.foldl (fun c p => c.setIfInBounds p.1 p.2) cs) t (0, 0)) := by
  induction l generalizing w cs with
  | nil => exact h
  | cons p l ih => exact ih (heap_setCell_same w f p.1 cs t p.2 h)
theorem CallerAt.sets {w : World} {c f : Nat} (l : List (Nat × Value)) (h : CallerAt w c) (hcf : c < f) : CallerAt (setsOf w f l) c := by
  induction l generalizing w with
  | nil => exact h
  | cons p l ih => exact ih (h.set hcf)
theorem Two.sets {w w' : World} {c f : Nat} (l : List (Nat × Value)) (h : Two w w' c f) : Two w (setsOf w' f l) c f := by
  induction l generalizing w' with
  | nil => exact h
  | cons p l ih => exact ih h.set
theorem Two.trans {w w' w2 : World} {c f : Nat} (h : Two w w' c f) (k : Two w' w2 c f) : Two w w2 c f :=
  ⟨k.os.trans h.os, k.tape.trans h.tape, k.output.trans h.output, Nat.le_trans h.size k.size, fun j hj h1 h2 => (k.block j (Nat.lt_of_lt_of_le hj h.size) h1 h2).trans (h.block j hj h1 h2)⟩

/-- What the first lines of Begin store. -/
def begun : List (Nat × Value) := [(3, .int .i64 10), (4, .string ⟨#[47]⟩), (5, .string ⟨#[]⟩), (6, .int .i64 0), (7, .int .i64 0), (8, .slice none 0 0), (9, .int .i64 0), (10, .bool true), (11, .bool false), (12, .int .i64 0), (13, .slice none 0 0), (14, .slice none 0 0), (15, .int .i64 0), (16, .bool false), (17, .int .u64 0), (18, .int .i64 0)]
theorem begun_cells (c : Nat) : begun.foldl (fun c p => c.setIfInBounds p.1 p.2) (filesC c) = filesB c 10 ⟨#[47]⟩ true 0 (.pointer none) .nilFunc (.slice none 0 0) := by
  simp [begun, filesC, filesB]
theorem calls_world {P : Program} {f : FuncId} {args : Array Value} {w w' : World} {R : Ending → World → Prop} (h : w = w') (hc : Calls P f args w' R) : Calls P f args w R := h ▸ hc
set_option maxRecDepth 100000 in
set_option maxHeartbeats 3200000 in
theorem begin_2 (f c : Nat) (w : World) (hcf : c < f) (hca : CallerAt w c) (h : w.heap[f]? = some (.cells (filesC c) 63 (0, 0))) :
    Calls Tryz.prog 4 #[.pointer (some ⟨f, 0, none⟩), callV, .int .i64 0] w fun e w' => ∃ v p, e = .returned (.tuple #[v, .int .i64 0]) ∧ Letter w' v ∧ w'.heap[f]? = some (.cells (filesB c 10 ⟨#[47]⟩ true 1 (.pointer (some p)) (rootedV f) (.slice none 0 0)) 63 (0, 0)) ∧ Two w w' c f := by
  have hfw : f < w.heap.size := (Array.getElem?_eq_some_iff.1 h).1
  have b0 : Below w.heap.size w (w.alloc (.cells #[.int .i64 10, .string ⟨#[47]⟩, .string ⟨#[]⟩, .int .i64 0, .int .i64 0, .slice none 0 0] 24)) := (Below.refl _ _).alloc (Nat.le_refl _) _
  have kf := blk_below h b0
  obtain ⟨d0, f0⟩ := blk_cells kf
  unfold filesC at d0
  have d10 : (w.alloc (.cells #[.int .i64 10, .string ⟨#[47]⟩, .string ⟨#[]⟩, .int .i64 0, .int .i64 0, .slice none 0 0] 24)).cell? ⟨f, 10, none⟩ = some (.bool false) := d0 10
  have HA := Lib.hid anew_1
  have HO := Lib.hid ownCall_1
  have HT := Lib.hid told_1
  have B0 := Lib.hid b0
  have KF := Lib.hid kf
  clear d0 h b0 kf
  unfold callV at *
  go_enter Tryz.func4, Tryz.ntmps4
  go_upto_region 7 with fail
  clear d10 f0
  go_wp2_with (go_at_call 15; refine (HO.out _).mono ?_; rintro e w1 ⟨rfl, b1⟩; have kf1 := blk_below KF.out b1; obtain ⟨d1, f1⟩ := blk_cells kf1; unfold filesC at d1; have KF1 := Lib.hid kf1; have B1 := Lib.hid b1; clear b1 kf1)
  have hk : (setsOf w1 f begun).heap[f]? = some (.cells (filesB c 10 ⟨#[47]⟩ true 0 (.pointer none) .nilFunc (.slice none 0 0)) 63 (0, 0)) := by
    rw [heap_sets begun KF1.out, begun_cells]
  have hc : CallerAt (setsOf w1 f begun) c := ((hca.below B0.out).below B1.out).sets begun hcf
  have ht : Two w (setsOf w1 f begun) c f := ((((⟨rfl, rfl, rfl, Nat.le_refl _, fun _ _ _ _ => rfl⟩ : Two w w c f).below B0.out).below B1.out)).sets begun
  have H := Lib.hid (HA.out f c _ hcf hc hk)
  have T := Lib.hid ht
  clear hk hc ht d1 f1
  refine calls_world (w' := setsOf w1 f begun) (by simp only [setsOf, begun, List.foldl_cons, List.foldl_nil]) ?_
  refine H.out.mono ?_
  rintro e w2 ⟨rfl, p, v, h1, h2, h3⟩
  have hv : ∃ g m, v = .slice (some g) 1 m := by obtain ⟨g, m, rfl, _⟩ := h2; exact ⟨_, _, rfl⟩
  have HT2 := Lib.hid (HT.out f c _ _ v w2 hv h1)
  have H1 := Lib.hid h1
  have H2 := Lib.hid h2
  have T3 := Lib.hid (T.out.trans h3)
  clear h1 h2 h3 hv
  go_wp2_with fail
  refine HT2.out.mono ?_
  rintro e w3 ⟨rfl, rfl⟩
  go_wp2_with fail
  go_ret2
  obtain ⟨g, m, rfl, hg, hl⟩ := H2.out
  refine ⟨_, p, rfl, Letter.set ⟨g, m, rfl, hg, hl⟩ ?_, ?_, T3.out.set⟩
  · rintro rfl
    have h1 := hl 0 (.int .i64 19) rfl
    rw [(blk_cells H1.out).1 0] at h1
    simp [filesB] at h1
  · rw [heap_setCell_same w2 f 24 _ 63 _ H1.out]; simp [filesB]
end Go.Proofs.YtngbclffngediaaGreatDoor
