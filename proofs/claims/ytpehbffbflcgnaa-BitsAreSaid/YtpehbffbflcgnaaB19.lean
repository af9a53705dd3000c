/- From a slice of bytes that came in to what the walks are told of it. -/
import Derived.Test.YtpehbffbflcgnaaB18
import Derived.ProofKit
import Derived.OpenShut
set_option linter.unusedVariables false
namespace Go.Proofs.Ytpehbffbflcgnaa
open Go.RowKit

/-- What is known of a slice of integers that came in: it is nil; or it leads to a row of 'cap' cells, of which the first 'len' are its elements. -/
def IsRow (k : IntKind) (w : World) (a : Option Addr) (len cap : Nat) (zs : List Int) : Prop :=
  (a = none ∧ len = 0 ∧ cap = 0 ∧ zs = []) ∨
  ∃ x, a = some x ∧ len ≤ cap ∧ cap ≤ maxLen ∧ zs.length = cap ∧ (∀ i, i < zs.length → w.cell? (x.add i) = some (.int k (zs.getD i 0))) ∧ ∀ n ∈ zs, (Lit.int k n).wf = true

theorem row_reads {k : IntKind} {w : World} {a : Option Addr} {len cap : Nat} {zs : List Int} (h : IsRow k w a len cap zs) :
    ∃ xs : List Int, len = xs.length ∧ RI w k a xs ∧ (∀ n ∈ xs, (Lit.int k n).wf = true) ∧ (a = none → xs.length = 0 ∧ cap = 0) := by
  rcases h with ⟨rfl, rfl, rfl, rfl⟩ | ⟨x, rfl, hl, _, hz, hc, hw⟩
  · exact ⟨[], rfl, fun h => by simp at h, by simp, fun _ => ⟨rfl, rfl⟩⟩
  · refine ⟨zs.take len, by simp; omega, fun _ => ⟨x, rfl, fun j hj => ?_⟩, fun n hn => hw n (List.mem_of_mem_take hn), fun h => by simp at h⟩
    have hj2 : j < len := by simp at hj; omega
    rw [hc j (by omega)]
    simp [List.getD_eq_getElem?_getD, hj2]
theorem byt_of_wf {xs : List Int} (h : ∀ n ∈ xs, (Lit.int .u8 n).wf = true) : Byt xs := fun x hx => by
  have := bounds_u8 (h x hx); omega
end Go.Proofs.Ytpehbffbflcgnaa
