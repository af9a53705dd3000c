/- An atlas, a caller and a client of one chain of one node. -/
import Derived.Test.YtngbclffngediaaGreatDoorN2
set_option linter.unusedVariables false
namespace Go.Proofs.YtngbclffngediaaGreatDoor
open Go.RowKit

/-- An atlas of one configuration. -/
def AtlasAt (w : World) (a : Nat) : Prop := ∃ v k, Confs w v ∧ w.heap[a]? = some (.cells #[v, k] 124 (0, 0))
theorem AtlasAt.below {w w' : World} {a : Nat} (h : AtlasAt w a) (hb : Below w.heap.size w w') : AtlasAt w' a := by
  obtain ⟨v, k, h1, h2⟩ := h
  exact ⟨v, k, h1.below hb, blk_below h2 hb⟩

set_option maxRecDepth 20000 in
set_option maxHeartbeats 1600000 in
theorem atlas_1 (v : Value) (w : World) (h : Confs w v) : Calls Tryz.prog 109 #[v] w fun e w' => ∃ a, e = .returned (.tuple #[.pointer (some ⟨a, 0, none⟩), .int .i64 0]) ∧ AtlasAt w' a ∧ Below w.heap.size w w' := by
  have hA := all_1 v w h
  have hC := fun w1 => copy_1 v w1
  obtain ⟨g, c, n, rfl, _⟩ := id h
  have HA := Lib.hid hA
  have HC := Lib.hid hC
  have HH := Lib.hid h
  clear hA hC h
  go_enter Tryz.func109, Tryz.ntmps109
  go_wp2_with (first
    | (go_at_call 151; refine HA.out.mono ?_; rintro e w1 ⟨rfl, b1⟩; have H1 := Lib.hid (HH.out.below b1); have B1 := Lib.hid b1; clear b1)
    | (go_at_call 53; refine (HC.out _ (H1.out.below ((Below.refl _ _).alloc (Nat.le_refl _) _))).mono ?_; rintro e w2 ⟨v2, rfl, o2, b2⟩; have O2 := Lib.hid o2; obtain ⟨g2, c2, n2, rfl, _⟩ := o2; have B2 := Lib.hid b2; clear b2)
    | go_in)
  go_ret2
  obtain ⟨_, k1, bb⟩ := heap2 w2 (.cells #[.int .u32 0, .int .i32 0, .int .u32 0, .func (.func 152) #[] #[.pointer (some ⟨w1.heap.size, 0, none⟩)], .int .i32 0, .slice none 0 0] 242) (.cells #[.slice (some ⟨g2, 0, none⟩) 1 c2, .pointer (some ⟨w2.heap.size, 0, none⟩)] 124)
  exact ⟨_, rfl, ⟨_, _, O2.out.below bb, k1⟩, below_trans (below_trans B1.out ((Below.refl _ _).alloc (Nat.le_refl _) _)) (below_trans B2.out bb)⟩

/-- A caller that has asked nothing. -/
def callerC (a : Nat) : Array Value := #[.int .i64 1, .int .i64 1, .int .u64 0, .int .i64 0, .pointer (some ⟨a, 0, none⟩), .int .i64 0, .int .u32 0, .int .u64 0, .slice none 0 0, .int .i64 0, .pointer none, .int .u64 0, .int .i64 0, .int .u64 0, .slice none 0 0]
def CallerAt (w : World) (c : Nat) : Prop := ∃ a w0, AtlasAt w0 a ∧ w0.heap.size ≤ c ∧ Below w0.heap.size w0 w ∧ w.heap[c]? = some (.cells (callerC a) 83 (0, 0))
theorem CallerAt.below {w w' : World} {c : Nat} (h : CallerAt w c) (hb : Below w.heap.size w w') : CallerAt w' c := by
  obtain ⟨a, w0, h1, h2, h3, h4⟩ := h
  exact ⟨a, w0, h1, h2, h3.trans (hb.mono h3.size), blk_below h4 hb⟩

set_option maxRecDepth 20000 in
set_option maxHeartbeats 1600000 in
theorem caller_1 (v : Value) (w : World) (h : Confs w v) : Calls Tryz.prog 61 #[.int .i64 1, .int .i64 1, v] w fun e w' => ∃ c, e = .returned (.tuple #[.pointer (some ⟨c, 0, none⟩), .int .i64 0]) ∧ CallerAt w' c ∧ w.heap.size ≤ c ∧ Below w.heap.size w w' := by
  have hA := atlas_1 v w h
  have HA := Lib.hid hA
  obtain ⟨g, c, n, rfl, _⟩ := id h
  clear hA h
  go_enter Tryz.func61, Tryz.ntmps61
  go_wp2_with (first
    | (go_at_call 109; refine HA.out.mono ?_; rintro e w1 ⟨a, rfl, h1, b1⟩; have H1 := Lib.hid h1; have B1 := Lib.hid b1; clear b1 h1))
  go_ret2
  exact ⟨_, rfl, ⟨a, w1, H1.out, Nat.le_refl _, (Below.refl _ _).alloc (Nat.le_refl _) _, heap_alloc_new w1 _⟩, B1.out.size, below_trans B1.out ((Below.refl _ _).alloc (Nat.le_refl _) _)⟩

/-- A client that has begun nothing. -/
def filesC (c : Nat) : Array Value := #[.pointer (some ⟨c, 0, none⟩), .int .i64 2, .int .i64 2, .int .i64 0, .string ⟨#[]⟩, .string ⟨#[]⟩, .int .i64 0, .int .i64 0, .slice none 0 0, .int .i64 0, .bool false, .bool false, .int .i64 0, .slice none 0 0, .slice none 0 0, .int .i64 0, .bool false, .int .u64 0, .int .i64 0, .pointer none, .int .u64 0, .slice none 0 0, .bool false, .nilFunc, .slice none 0 0]
theorem CallerAt.lt {w : World} {c : Nat} (h : CallerAt w c) : c < w.heap.size := by obtain ⟨_, _, _, _, _, h4⟩ := h; exact (Array.getElem?_eq_some_iff.1 h4).1
def FilesAt (w : World) (f B : Nat) : Prop := ∃ c, B ≤ c ∧ c < f ∧ CallerAt w c ∧ w.heap[f]? = some (.cells (filesC c) 63 (0, 0))

set_option maxRecDepth 20000 in
set_option maxHeartbeats 1600000 in
theorem files_1 (v : Value) (w : World) (h : Confs w v) : Calls Tryz.prog 39 #[.int .i64 1, .int .i64 1, v, .agg #[.int .i64 2, .int .i64 2]] w fun e w' => ∃ c, e = .returned (.tuple #[.pointer (some ⟨c, 0, none⟩), .int .i64 0]) ∧ FilesAt w' c w.heap.size ∧ Below w.heap.size w w' := by
  have hA := fun w1 => caller_1 v w1
  obtain ⟨k0, _, bb⟩ := heap2 w (.cells #[.int .i64 2, .int .i64 2] 58) (.cells #[.int .i64 2, .int .i64 2] 58)
  have K0 := Lib.hid k0
  have BB := Lib.hid bb
  clear k0 bb
  have HA := Lib.hid hA
  have H := Lib.hid h
  obtain ⟨g, c, n, rfl, _⟩ := id h
  clear hA h
  go_enter Tryz.func39, Tryz.ntmps39
  go_wp2_with (first
    | (go_at_call 61; refine (HA.out _ (H.out.below BB.out)).mono ?_; rintro e w1 ⟨a, rfl, h1, hle, b1⟩; obtain ⟨d0, f0⟩ := blk_cells (blk_below K0.out b1); have HLE := Lib.hid hle; have H1 := Lib.hid h1; have B1 := Lib.hid b1; clear b1 h1 hle)
    | go_in)
  go_ret2
  exact ⟨_, rfl, ⟨a, Nat.le_trans BB.out.size HLE.out, H1.out.lt, H1.out.below ((Below.refl _ _).alloc (Nat.le_refl _) _), heap_alloc_new w1 _⟩, below_trans BB.out (below_trans B1.out ((Below.refl _ _).alloc (Nat.le_refl _) _))⟩

set_option maxRecDepth 20000 in
set_option maxHeartbeats 1600000 in
theorem client_1 (w : World) : Calls Tryz.prog 26 #[.int .i64 1, .agg #[.int .i64 2, .int .i64 2]] w fun e w' => ∃ c, e = .returned (.tuple #[.pointer (some ⟨c, 0, none⟩), .int .i64 0]) ∧ FilesAt w' c w.heap.size ∧ Below w.heap.size w w' := by
  have hk := heap_alloc_new w (.cells #[.int .i64 2, .int .i64 2] 75)
  have K0 := Lib.hid hk
  clear hk
  go_enter Tryz.func26, Tryz.ntmps26
  go_wp2_with (first
    | (go_at_call 38; refine (begin_1 _).mono ?_; rintro e w1 ⟨v, rfl, h1, b1⟩; obtain ⟨d0, f0⟩ := blk_cells (blk_below K0.out b1); have H1 := Lib.hid h1; obtain ⟨g, c, n, rfl, _⟩ := h1; have B1 := Lib.hid b1; clear b1)
    | (go_at_call 39; refine (files_1 _ _ H1.out).mono ?_; rintro e w2 ⟨f, rfl, h2, b2⟩; have H2 := Lib.hid h2; have B2 := Lib.hid b2; clear b2 h2))
  go_ret2
  refine ⟨_, rfl, ?_, below_trans ((Below.refl _ _).alloc (Nat.le_refl _) _) (below_trans B1.out B2.out)⟩
  obtain ⟨c2, h1, h2⟩ := H2.out
  have := B1.out.size
  exact ⟨c2, by simp at this; omega, h2⟩
end Go.Proofs.YtngbclffngediaaGreatDoor
