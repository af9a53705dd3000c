/- What is taken, and given back, in any order. Plain. And the walk of BitsAll. -/
import Derived.Test.YtpehbffbflcgnaaB15
set_option linter.unusedVariables false
namespace Go.Proofs.Ytpehbffbflcgnaa
open Go.RowKit

theorem pickL_sorted (f : Int → Bool) (k : Nat) : (pickL f k).Pairwise (· < ·) := by
  induction k with
  | zero => exact List.Pairwise.nil
  | succ k ih =>
    unfold pickL
    rw [List.pairwise_append]
    refine ⟨ih, ?_, fun a ha b hb => ?_⟩
    · split <;> simp
    · have := (mem_pickL.1 ha).2.1
      split at hb
      · simp at hb; omega
      · simp at hb
theorem takeL_sorted (xs : List Int) (n k : Int) : (takeL xs n k).Pairwise (· < ·) := List.Pairwise.sublist (List.take_sublist _ _) (pickL_sorted _ _)
theorem nodup_of_sorted {l : List Int} (h : l.Pairwise (· < ·)) : l.Nodup := List.Pairwise.imp (fun h => by omega) h

theorem giveF_all (n : Int) : ∀ (l : List Int) (f : Int → Bool), l.Nodup → (∀ i ∈ l, 0 ≤ i ∧ i < n ∧ f i = true) → giveF n f l = (0, fun q => f q && !decide (q ∈ l))
  | [], f, _, _ => by simp [giveF]
  | i :: l, f, hd, h => by
    have hi := h i (by simp)
    have hd' := List.nodup_cons.1 hd
    rw [giveF, if_neg (by omega), if_pos hi.2.2, giveF_all n l _ hd'.2 (fun j hj => by
      have := h j (by simp [hj])
      refine ⟨this.1, this.2.1, ?_⟩
      have hne : j ≠ i := fun e => hd'.1 (e ▸ hj)
      simp [hne, this.2.2])]
    congr 1
    funext q
    by_cases e : q = i
    · simp [e]
    · simp [e]

theorem takeL_mem {xs : List Int} {n k : Int} {q : Int} (h : q ∈ takeL xs n k) : 0 ≤ q ∧ q < n ∧ hasB xs q = false := by
  have := mem_pickL.1 (List.mem_of_mem_take h)
  refine ⟨this.1, by omega, ?_⟩
  have := this.2.2
  simpa [freeF] using this
/-- What was taken, given back in whatever order. -/
theorem give_back {xs : List Int} {n k : Int} (l : List Int) (hp : l.Perm (takeL xs n k)) : giveF n (takeF xs n k) l = (0, hasB xs) := by
  rw [giveF_all n l _ (hp.nodup_iff.2 (nodup_of_sorted (takeL_sorted xs n k))) (fun i hi => by
    have := hp.mem_iff.1 hi
    have h := takeL_mem this
    exact ⟨h.1, h.2.1, by simp [takeF, this]⟩)]
  congr 1
  funext q
  simp only [hp.mem_iff]
  unfold takeF
  by_cases h : q ∈ takeL xs n k
  · have := (takeL_mem h).2.2
    simp [h, this]
  · simp [h]
theorem give_again {xs : List Int} {n k : Int} (l : List Int) (hp : l.Perm (takeL xs n k)) (h : l ≠ []) : (giveF n (hasB xs) l).1 = 7 := by
  match l, h with
  | i :: l, _ =>
    have := takeL_mem (hp.mem_iff.1 (List.mem_cons_self))
    rw [giveF, if_neg (by omega), if_neg (by simp [this.2.2])]

/-- A bitmap in new memory is one of n, with these bits. -/
theorem fits_of_map {ys : List Int} {n : Int} {f : Int → Bool} (h0 : 0 ≤ n) (h1 : n ≤ 4096) (h : IsMap ys (sizeI n) f) (hf : ∀ i, n ≤ i → f i = false) : fitsB ys n = true :=
  fitsB_true.2 ⟨h0, h1, .inr h.len, fun i hi => (h.has i).trans (hf i hi)⟩
theorem takeF_range {xs : List Int} {n k : Int} (hf : fitsB xs n = true) {i : Int} (hi : n ≤ i) : takeF xs n k i = false := by
  unfold takeF
  rw [(fitsB_true.1 hf).2.2.2 i hi]
  simp only [Bool.false_or, decide_eq_false_iff_not]
  intro h
  have := takeL_mem h
  omega
theorem pickL_congr {f g : Int → Bool} {m : Nat} (h : ∀ q, 0 ≤ q → q < m → f q = g q) : pickL f m = pickL g m := by
  induction m with
  | zero => rfl
  | succ m ih =>
    unfold pickL
    rw [ih (fun q h0 h1 => h q h0 (by omega)), h m (by omega) (by omega)]
theorem list_of_map {ys : List Int} {n : Int} {f : Int → Bool} (hf : fitsB ys n = true) (h : ∀ i, hasB ys i = f i) : listB ys n = pickL f n.toNat := by
  rw [listB_yes hf]
  exact pickL_congr (fun q _ _ => h q)
theorem takeF_length {xs : List Int} {n k : Int} (hf : fitsB xs n = true) (hk : 0 ≤ k) (hk2 : k ≤ (freeL xs n).length) : ((pickL (takeF xs n k) n.toNat).length : Int) = (listB xs n).length + k := by
  have hn0 := (fitsB_true.1 hf).1
  have h1 := free_used (takeF xs n k) n.toNat
  have h2 := free_count hf
  -- those that are free then are those free before, but for what was taken
  have h3 : pickL (fun q => !takeF xs n k q) n.toNat = (freeL xs n).drop k.toNat := by
    have hs : (freeL xs n).Pairwise (· < ·) := pickL_sorted _ _
    have e : pickL (fun q => !takeF xs n k q) n.toNat = (freeL xs n).filter (fun q => !decide (q ∈ takeL xs n k)) := by
      have hgen : ∀ m : Nat, pickL (fun q => !takeF xs n k q) m = (pickL (freeF xs) m).filter (fun q => !decide (q ∈ takeL xs n k)) := by
        intro m
        induction m with
        | zero => rfl
        | succ m ih =>
          unfold pickL
          rw [List.filter_append, ih]
          congr 1
          unfold takeF freeF
          cases hasB xs m <;> simp
          by_cases hm : (m : Int) ∈ takeL xs n k <;> simp [hm]
      exact hgen n.toNat
    rw [e]
    have hsplit : freeL xs n = takeL xs n k ++ (freeL xs n).drop k.toNat := (List.take_append_drop k.toNat (freeL xs n)).symm
    have hd : ∀ q ∈ (freeL xs n).drop k.toNat, q ∉ takeL xs n k := by
      intro q hq ht
      rw [hsplit, List.pairwise_append] at hs
      have := hs.2.2 q ht q hq
      omega
    conv => lhs; rw [hsplit]
    rw [List.filter_append]
    have e1 : (takeL xs n k).filter (fun q => !decide (q ∈ takeL xs n k)) = [] := by
      rw [List.filter_eq_nil_iff]; intro q hq; simp [hq]
    have e2 : ((freeL xs n).drop k.toNat).filter (fun q => !decide (q ∈ takeL xs n k)) = (freeL xs n).drop k.toNat := by
      rw [List.filter_eq_self]; intro q hq; simp [hd q hq]
    rw [e1, e2]; rfl
  rw [h3] at h1
  rw [List.length_drop] at h1
  omega
theorem takeL_length {xs : List Int} {n k : Int} (hk : 0 ≤ k) (hk2 : k ≤ (freeL xs n).length) : ((takeL xs n k).length : Int) = k := by
  unfold takeL; rw [List.length_take]; omega
end Go.Proofs.Ytpehbffbflcgnaa
