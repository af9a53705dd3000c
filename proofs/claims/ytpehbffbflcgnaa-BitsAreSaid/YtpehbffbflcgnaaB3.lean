/- Slices that a call makes itself, as lists of integers; appending one to them; List of the program and of the reference. -/
import Derived.Test.YtpehbffbflcgnaaB2
namespace Go.Proofs.Ytpehbffbflcgnaa
open Go.RowKit

/-- A slice of the call's own, in blocks from base on, that holds integers of a kind. -/
def OI (w : World) (base : Nat) (e : TypeId) (k : IntKind) (v : Value) (xs : List Int) : Prop :=
  w.ownsRow base e 1 v xs.length (xs.map (Value.int k))

theorem addr_add (g j : Nat) : (⟨g, 0, none⟩ : Addr).add j = ⟨g, j, none⟩ := by unfold Addr.add; split <;> simp_all

section
variable {w W : World} {base : Nat} {e : TypeId} {k : IntKind} {v : Value} {xs : List Int}
theorem OI.nil (w : World) (base : Nat) (e : TypeId) (k : IntKind) : OI w base e k (.slice none 0 0) [] := World.ownsRow_nil _ _ _ _
theorem OI.reads (h : OI w base e k v xs) : ∃ A c, v = .slice A xs.length c ∧ RI w k A xs := by
  rcases h.2 with ⟨rfl, h0⟩ | ⟨g, cap, cur, rfl, _⟩
  · have : xs = [] := List.eq_nil_of_length_eq_zero h0
    subst this
    exact ⟨none, 0, rfl, fun h => by simp at h⟩
  · refine ⟨some ⟨g, 0, none⟩, cap, rfl, fun _ => ⟨_, rfl, fun j hj => ?_⟩⟩
    refine World.ownsRow.cells h rfl j _ ?_
    simp [List.getD_eq_getElem?_getD, hj]
theorem OI.below (h : OI w base e k v xs) (hb : Below w.heap.size w W) : OI W base e k v xs :=
  World.ownsRow.kept h (row := none) ⟨hb.os, hb.tape, hb.output, hb.size, fun i hi _ => hb.block i hi⟩ (by cases v.ownBlock <;> simp)
theorem OI.mono (h : OI w base e k v xs) {b : Nat} (hb : b ≤ base) : OI w b e k v xs := by
  refine ⟨h.1, ?_⟩
  rcases h.2 with h1 | ⟨g, cap, cur, h1, h2, h3⟩
  · exact .inl h1
  · exact .inr ⟨g, cap, cur, h1, Nat.le_trans hb h2, h3⟩
theorem OI.kept (h : OI w base e k v xs) {row : Option Nat} (hg : w.grownBy W row) (hne : v.ownBlock = none ∨ v.ownBlock ≠ row) : OI W base e k v xs :=
  World.ownsRow.kept h hg hne
theorem OI.ne_type (h : OI w base e k v xs) {b' e' : Nat} {k' : IntKind} {v' : Value} {xs' : List Int} (h' : OI w b' e' k' v' xs') (hne : e ≠ e') : v.ownBlock = none ∨ v.ownBlock ≠ v'.ownBlock := by
  rcases h.2 with ⟨rfl, _⟩ | ⟨g, cap, cur, rfl, _, hh, _⟩
  · exact .inl rfl
  · refine .inr fun hk => ?_
    rcases h'.2 with ⟨rfl, _⟩ | ⟨g', cap', cur', rfl, _, hh', _⟩
    · simp [Value.ownBlock] at hk
    · have : g = g' := by simpa [Value.ownBlock] using hk
      subst this
      rw [hh] at hh'
      simp at hh'
      exact hne hh'.2
theorem RI.below {A : Option Addr} (h : RI w k A xs) (hb : Below w.heap.size w W) : RI W k A xs := fun h0 => by
  obtain ⟨ad, e, hc⟩ := h h0
  exact ⟨ad, e, fun j hj => (hb.cell (World.block_lt_of_cell? w _ (hc j hj))).trans (hc j hj)⟩
theorem below_then {a b c : World} (h : Below a.heap.size a b) (k : Below b.heap.size b c) : Below a.heap.size a c :=
  h.trans (k.mono h.size)
theorem below_then' {B : Nat} {a b c : World} (h : Below B a b) (hB : B ≤ b.heap.size) (k : Below b.heap.size b c) : Below B a c :=
  h.trans (k.mono hB)
end

/-- append(v, y), v of the call's own. -/
theorem wp_append1 {P : Program} {ops : Array Oper} {rest : List Oper} {o : Oper} {a : Act} {Q : Exit → Act → World → Prop} {w0 W : World} (base : Nat) (hgd : o.guard = none) (s x : Operand) (t e : TypeId) (k : IntKind) (bytes : Nat)
    (ho : o.op = .call { callee := .builtin .append, args := #[s, x], argTypes := #[t, t] })
    (ht : P.underlying t = some (.slice e)) (hinfo : (P.info? e).map (fun i => (i.zero, i.size, i.bytes)) = some (some (.int k 0), 1, bytes)) (hb0 : 0 < bytes)
    (v : Value) (xs : List Int) (y : Int) (hs : a.eval s = v) (hx : a.eval x = .slice (some ⟨W.heap.size, 0, none⟩) 1 1)
    (HO : OI W base e k v xs) (HB : Below base w0 W) (hbase : base ≤ W.heap.size) (hl : (xs.length + 1) * bytes ≤ 140737488355328)
    (h : ∀ v1 w1, OI w1 base e k v1 (xs ++ [y]) → Below base w0 w1 → W.grownBy w1 v.ownBlock → wpList P ops Q rest (a.put o.dst v1) w1) :
    wpList P ops Q (o :: rest) a (W.alloc (.cells #[.int k y] e)) := by
  obtain ⟨i0, hi, hz0, hz1, hz2⟩ := info_parts hinfo
  have hlen : xs.length + 1 ≤ 140737488355328 := Nat.le_trans (Nat.le_mul_of_pos_right _ hb0) hl
  refine wpList_append_own (W.alloc (.cells #[.int k y] e)) hgd s x t ho base e i0 (.int k 0) 1 bytes ht hi hz0 hz1 hz2 rfl (by decide) v xs.length (xs.map (Value.int k)) hs (World.ownsRow.alloc HO _) ⟨W.heap.size, 0, none⟩ 1 1 [.int k y] hx rfl
    ?_ (by simp [Value.oneCell']) (by unfold maxLen; omega) hl (by simp; omega) ?_
  · intro j u hj
    match j, hj with
    | 0, hj =>
      simp at hj; subst hj
      rw [addr_add]
      exact cell_of_row _ _ 0 #[.int k y] e (0, 0) (heap_alloc_new W _) |>.trans rfl
  · intro v1 w1 hown hg _
    refine h v1 w1 (by unfold OI; simpa using hown) ?_ ⟨hg.os, hg.tape, hg.output, Nat.le_trans (by simp) hg.size, fun q hq hne => (hg.block q (by simp; omega) hne).trans (Below.heap_alloc W _ q hq)⟩
    exact (HB.alloc hbase _).grown hg (by simp; omega) (fun q hq => ((World.ownsRow.lt HO) q hq).1)

/-- The numbers below k of which f holds, in rising order. -/
def pickL (f : Int → Bool) : Nat → List Int
  | 0 => []
  | k + 1 => pickL f k ++ (if f k then [(k : Int)] else [])
theorem pickL_hit {f : Int → Bool} {k : Nat} (h : f k = true) : pickL f (k + 1) = pickL f k ++ [(k : Int)] := by simp [pickL, h]
theorem pickL_miss {f : Int → Bool} {k : Nat} (h : f k = false) : pickL f (k + 1) = pickL f k := by simp [pickL, h]
theorem pickL_length (f : Int → Bool) (k : Nat) : (pickL f k).length ≤ k := by
  induction k with
  | zero => simp [pickL]
  | succ k ih => cases h : f k <;> simp [pickL, h] <;> omega
theorem mem_pickL {f : Int → Bool} {k : Nat} {x : Int} : x ∈ pickL f k ↔ 0 ≤ x ∧ x < k ∧ f x = true := by
  induction k with
  | zero => simp [pickL]; omega
  | succ k ih =>
    cases h : f k <;> simp only [pickL, h, if_true, List.mem_append, ih, List.mem_singleton, Bool.false_eq_true, if_false, List.append_nil]
    · constructor
      · rintro ⟨a, b, c⟩; exact ⟨a, by omega, c⟩
      · rintro ⟨a, b, c⟩
        refine ⟨a, ?_, c⟩
        by_cases e : x = k
        · subst e; rw [h] at c; cases c
        · omega
    · constructor
      · rintro (⟨a, b, c⟩ | rfl)
        · exact ⟨a, by omega, c⟩
        · exact ⟨by omega, by omega, h⟩
      · rintro ⟨a, b, c⟩
        by_cases e : x = k
        · exact .inr e
        · exact .inl ⟨a, by omega, c⟩

/-- What a call gives that makes one slice of integers. -/
def GivesI (w : World) (e : TypeId) (k : IntKind) (xs : List Int) (en : Ending) (w' : World) : Prop :=
  ∃ v, en = .returned v ∧ OI w' w.heap.size e k v xs ∧ Below w.heap.size w w'

theorem Try.info3 : (Try.prog.info? 3).map (fun i => (i.zero, i.size, i.bytes)) = some (some (.int .i64 0), 1, 8) := by kernel_rfl
theorem Try.info5 : (Try.prog.info? 5).map (fun i => (i.zero, i.size, i.bytes)) = some (some (.int .u8 0), 1, 1) := by kernel_rfl

section list
variable (A : Option Addr) (c : Nat) (xs : List Int) (n : Int) (w : World)
/-- What List answers. -/
noncomputable def listB (xs : List Int) (n : Int) : List Int := if fitsB xs n then pickL (hasB xs) n.toNat else []
theorem listB_no {xs : List Int} {n : Int} (h : fitsB xs n = false) : listB xs n = [] := by simp [listB, h]
theorem listB_yes {xs : List Int} {n : Int} (h : fitsB xs n = true) : listB xs n = pickL (hasB xs) n.toNat := by simp [listB, h]

set_option maxHeartbeats 800000 in
theorem list_any (hl : xs.length ≤ 600) (hr : RI w .u8 A xs) (hby : Byt xs) :
    Calls Try.prog 15 #[.slice A xs.length c, .int .i64 n] w (GivesI w 3 .i64 (listB xs n)) := by
  have HR := Lib.hid hr
  have HY := Lib.hid hby
  clear hr hby
  cases hf : fitsB xs n with
  | false =>
    have HF := Lib.hid hf
    clear hf
    go_enter Try.func15, Try.ntmps15
    go_wp2_with (go_at_call 23; refine (fits_any _ _ _ _ _ hl HR.out HY.out).mono ?_; rw [HF.out]; rintro e w' ⟨rfl, rfl⟩)
    go_ret
    rw [listB_no HF.out]
    exact ⟨_, rfl, OI.nil _ _ _ _, Below.refl _ _⟩
  | true =>
    have HF := Lib.hid hf
    have hp := fitsB_true.1 hf
    obtain ⟨m, rfl⟩ := Int.eq_ofNat_of_zero_le hp.1
    have hm : m ≤ 4096 := by have := hp.2.1; omega
    clear hf hp
    go_enter Try.func15, Try.ntmps15
    go_wp2_with (go_at_call 23; refine (fits_any _ _ _ _ _ hl HR.out HY.out).mono ?_; rw [HF.out]; rintro e w' ⟨rfl, rfl⟩)
    go_loopw [5, 12] (fun v i wr => ∃ k : Nat, k ≤ m ∧ i = .int .i64 k ∧ OI wr w.heap.size 3 .i64 v (pickL (hasB xs) k) ∧ Below w.heap.size w wr) (fun _ i _ => m - (intOf i).toNat)
    case atStart => exact ⟨0, Nat.zero_le _, rfl, OI.nil _ _ _ _, Below.refl _ _⟩
    case round =>
      obtain ⟨k, hk, rfl, hown, hbel⟩ := hrel
      have hsz := hbel.size
      by_cases hlt : (k : Int) < (m : Int)
      · cases hh : hasB xs k with
        | true =>
          have HH := Lib.hid hh
          clear hh
          have hpl := pickL_length (hasB xs) k
          go_wp2_with (first
            | (go_at_call 14; refine (has_any _ _ _ _ _ (by omega) (by omega) (HR.out.below hbel) HY.out).mono ?_; rw [HH.out]; rintro e w' ⟨rfl, rfl⟩)
            | (at_builtin; refine wp_append1 w.heap.size rfl (.tmp 18) (.tmp 20) 24 3 .i64 8 rfl Try.underlying24 Try.info3 (by decide) _ (pickL (hasB xs) k) k rfl rfl hown hbel hsz (by omega) ?_; intro v1 w1 hown1 hbel1 _))
          go_roundw
          case rel => exact ⟨k + 1, by omega, by go_num, by rw [pickL_hit HH.out]; exact hown1, hbel1⟩
          case measure => simp [intOf]; omega
        | false =>
          have HH := Lib.hid hh
          clear hh
          go_wp2_with (go_at_call 14; refine (has_any _ _ _ _ _ (by omega) (by omega) (HR.out.below hbel) HY.out).mono ?_; rw [HH.out]; rintro e w' ⟨rfl, rfl⟩)
          go_roundw
          case rel => exact ⟨k + 1, by omega, by go_num, by rw [pickL_miss HH.out]; exact hown, hbel⟩
          case measure => simp [intOf]; omega
      · go_wp2
        go_ret
        rw [listB_yes HF.out, show ((m : Int).toNat) = k by omega]
        exact ⟨_, rfl, hown, hbel⟩
end list
end Go.Proofs.Ytpehbffbflcgnaa
