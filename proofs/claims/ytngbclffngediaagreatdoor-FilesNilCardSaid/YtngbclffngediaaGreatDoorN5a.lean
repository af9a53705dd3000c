/- A letter stored whole into its own new block. -/
import Derived.Test.YtngbclffngediaaGreatDoorN4
import Derived.Deep.MidRow
set_option linter.unusedVariables false
namespace Go.Proofs.YtngbclffngediaaGreatDoor
open Go.RowKit
/-- The letter that asks. -/
def letterC (k dest num : Int) : Array Value := #[.int .i64 k, .int .i64 201, .int .i64 dest, .int .i64 0, .int .u64 1, .int .u64 0, .int .u64 num, .int .u64 0, .int .u64 0, .int .u64 0, .int .i64 0, .int .u32 0, .int .i64 0, .int .i64 0, .int .i64 0, .int .u64 0, .int .i64 0, .int .i64 0, .int .u64 0, .slice none 0 0, .bool false, .int .i64 0, .slice none 0 0, .slice none 0 0, .slice none 0 0]
def letterZ : Array Value := #[.int .i64 0, .int .i64 0, .int .i64 0, .int .i64 0, .int .u64 0, .int .u64 0, .int .u64 0, .int .u64 0, .int .u64 0, .int .u64 0, .int .i64 0, .int .u32 0, .int .i64 0, .int .i64 0, .int .i64 0, .int .u64 0, .int .i64 0, .int .i64 0, .int .u64 0, .slice none 0 0, .bool false, .int .i64 0, .slice none 0 0, .slice none 0 0, .slice none 0 0]

theorem set_alloc (W : World) (A : Array Value) (t : TypeId) (j : Nat) (v : Value) : (W.alloc (.cells A t)).drew.setCell ⟨W.heap.size, j, none⟩ v = (W.alloc (.cells (A.setIfInBounds j v) t)).drew :=
  congrArg World.drew (World.setCell_alloc_new (w := W) A t j v)
/-- A block's cells, one by one set from a place on. -/
def setsFrom (A : Array Value) : Nat → List Value → Array Value
  | _, [] => A
  | o, v :: vs => setsFrom (A.setIfInBounds o v) (o + 1) vs
theorem setCells_alloc (W : World) (t : TypeId) (L : List Value) : ∀ (A : Array Value) (o : Nat), (W.alloc (.cells A t)).drew.setCells W.heap.size o L = (W.alloc (.cells (setsFrom A o L) t)).drew := by
  induction L with
  | nil => intro A o; rfl
  | cons v vs ih =>
    intro A o
    simp only [World.setCells, set_alloc, setsFrom]
    exact ih _ _
theorem letter_sets : setsFrom letterZ 0 (letterC 0 0 0).toList = letterC 0 0 0 := by kernel_rfl
theorem store49 (W : World) : (Instr.storeAt 49 (.pointer (some ⟨W.heap.size, 0, none⟩)) (.agg (letterC 0 0 0))).run Tryz.prog (W.alloc (.cells letterZ 49)).drew = .ok () (W.alloc (.cells (letterC 0 0 0) 49)).drew := by
  have ht : (W.alloc (.cells letterZ 49)).drew.there W.heap.size 0 (letterC 0 0 0).size := by
    intro j hj
    have hh := blk_cells (w := (W.alloc (.cells letterZ 49)).drew) (heap_alloc_new W _)
    have hj' : j < letterZ.size := hj
    exact ⟨by rw [hh.1]; simp [hj'], hh.2 _⟩
  rw [run_storeAt_mid _ _ _ _ _ ht (by kernel_rfl) (by kernel_rfl), setCells_alloc, letter_sets]
/-- A letter's store, kept whole. -/
def st49 (p v : Value) : Sem Unit := Instr.storeAt 49 p v
theorem storeAt49 (p v : Value) : Instr.storeAt 49 p v = st49 p v := rfl
theorem st49_run (W : World) : (st49 (.pointer (some ⟨W.heap.size, 0, none⟩)) (.agg #[.int .i64 0, .int .i64 201, .int .i64 0, .int .i64 0, .int .u64 1, .int .u64 0, .int .u64 0, .int .u64 0, .int .u64 0, .int .u64 0, .int .i64 0, .int .u32 0, .int .i64 0, .int .i64 0, .int .i64 0, .int .u64 0, .int .i64 0, .int .i64 0, .int .u64 0, .slice none 0 0, .bool false, .int .i64 0, .slice none 0 0, .slice none 0 0, .slice none 0 0])).run Tryz.prog (W.alloc (.cells #[.int .i64 0, .int .i64 0, .int .i64 0, .int .i64 0, .int .u64 0, .int .u64 0, .int .u64 0, .int .u64 0, .int .u64 0, .int .u64 0, .int .i64 0, .int .u32 0, .int .i64 0, .int .i64 0, .int .i64 0, .int .u64 0, .int .i64 0, .int .i64 0, .int .u64 0, .slice none 0 0, .bool false, .int .i64 0, .slice none 0 0, .slice none 0 0, .slice none 0 0] 49)).drew = .ok () (W.alloc (.cells (letterC 0 0 0) 49)).drew := store49 W
/-- A letter's load, kept whole. -/
def ld49 (p : Value) : Sem Value := Instr.loadAt 49 p
theorem loadAt49 (p : Value) : Instr.loadAt 49 p = ld49 p := rfl
theorem ld49_run (w : World) (b : Nat) (L : Array Value) (hL : L.size = 25) (h : w.heap[b]? = some (.cells L 49 (0, 0))) : (ld49 (.pointer (some ⟨b, 0, none⟩))).run Tryz.prog w = .ok (.agg L) w := by
  have hc : w.rangeAt b 0 L.toList := by
    intro j u hj
    rw [(blk_cells h).1, Nat.zero_add, ← Array.getElem?_toList]; exact hj
  have hi : (Tryz.prog.info? 49).map (·.size) = some L.toList.length := by
    rw [Array.length_toList, hL]; kernel_rfl
  exact run_loadAt_mid w b 0 49 L.toList _ hc Tryz.underlying49 rfl hi
/-- A list of one letter: it asks for a key's value. -/
def Letter (w : World) (v : Value) : Prop := ∃ g c, v = .slice (some ⟨g, 0, none⟩) 1 c ∧ g < w.heap.size ∧ ∀ j u, (letterC 19 1 1)[j]? = some u → w.cell? ⟨g, j, none⟩ = some u
theorem letter_new (w : World) (Y : Array Value) (h : Y = letterC 19 1 1) : Letter (w.alloc (.cells Y 49)) (.slice (some ⟨w.heap.size, 0, none⟩) 1 1) := by
  subst h
  have hk := heap_alloc_new w (.cells (letterC 19 1 1) 49)
  exact ⟨_, _, rfl, (Array.getElem?_eq_some_iff.1 hk).1, fun j u hj => ((blk_cells hk).1 j).trans hj⟩
theorem letter_kind : ((((letterC 0 0 0).setIfInBounds 0 (.int .i64 19)).setIfInBounds 2 (.int .i64 1)).setIfInBounds 6 (.int .u64 1)).setIfInBounds 11 (.int .u32 0) = letterC 19 1 1 := by kernel_rfl
theorem letter_block {w : World} {b : Nat} (h : w.heap[b]? = some (.cells (letterC 0 0 0) 49 (0, 0))) :
    ((((w.setCell ⟨b, 0, none⟩ (.int .i64 19)).setCell ⟨b, 2, none⟩ (.int .i64 1)).setCell ⟨b, 6, none⟩ (.int .u64 1)).setCell ⟨b, 11, none⟩ (.int .u32 0)).heap[b]? = some (.cells (letterC 19 1 1) 49 (0, 0)) := by
  have := heap_setCell_same _ b 11 _ 49 (.int .u32 0) (heap_setCell_same _ b 6 _ 49 (.int .u64 1) (heap_setCell_same _ b 2 _ 49 (.int .i64 1) (heap_setCell_same _ b 0 _ 49 (.int .i64 19) h)))
  rw [this]
  exact congrArg (fun L => some (Obj.cells L 49 (0, 0))) letter_kind
end Go.Proofs.YtngbclffngediaaGreatDoor
