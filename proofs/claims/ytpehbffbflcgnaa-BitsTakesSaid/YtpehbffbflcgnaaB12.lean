/- append of a whole slice; the reference's Take. -/
import Derived.Test.YtpehbffbflcgnaaB11
import Derived.Deep.RegionLaw
set_option linter.unusedVariables false
namespace Go.Proofs.Ytpehbffbflcgnaa
open Go.RowKit

section
variable {P : Program} {ops : Array Oper} {o : Oper} {a : Act} {K : Act → World → Prop} {Q : Exit → Act → World → Prop} {W : World}
theorem run_append_all (base : Nat) (t ty e : TypeId) (k : IntKind) (bytes : Nat) (ht : P.underlying t = some (.slice e))
    (hinfo : (P.info? e).map (fun i => (i.zero, i.size, i.bytes)) = some (some (.int k 0), 1, bytes))
    (v : Value) (xs ys : List Int) (A : Option Addr) (m c : Nat) (hm : m = ys.length) (HO : OI W base e k v xs) (HR : RI W k A ys) (hA : A = none → m = 0 ∧ c = 0) (hbase : base ≤ W.heap.size)
    (hl : (xs.length + ys.length) * bytes ≤ 140737488355328) (hl2 : xs.length + ys.length ≤ 140737488355328) :
    ∃ v1 w1, (Builtin.append_ #[t, t] ty #[v, .slice A m c]).run P W = .ok v1 w1 ∧ OI w1 base e k v1 (xs ++ ys) ∧ W.grownBy w1 v.ownBlock := by
  obtain ⟨i0, hi, hz0, hz1, hz2⟩ := info_parts hinfo
  subst hm
  cases A with
  | none =>
    obtain ⟨h0, rfl⟩ := hA rfl
    have : ys = [] := List.eq_nil_of_length_eq_zero h0
    subst this
    refine ⟨v, W, run_append_owned_none W base t ty e i0 1 ht hi v xs.length _ HO, by simpa using HO, ⟨rfl, rfl, rfl, Nat.le_refl _, fun _ _ _ => rfl⟩⟩
  | some ad =>
    have hcell : ∀ j u, (ys.map (Value.int k))[j]? = some u → W.cell? (ad.add j) = some u := by
      intro j u hu
      have hj : j < ys.length := by have := (List.getElem?_eq_some_iff.1 hu).1; simpa using this
      obtain ⟨ad', he, hc⟩ := HR (by omega)
      cases he
      rw [hc j hj]
      simp [hj] at hu
      rw [← hu]; simp [List.getD_eq_getElem?_getD, hj]
    obtain ⟨v1, w1, hr, hown, hg, _⟩ := run_append_own (P := P) W base t ty e i0 (.int k 0) 1 bytes ht hi hz0 hz1 hz2 rfl (by decide) v xs.length _ HO ad ys.length c (ys.map (Value.int k)) (by simp) hcell
      (by intro u hu; simp at hu; obtain ⟨x, _, rfl⟩ := hu; rfl) (by unfold maxLen; omega) hl hbase
    exact ⟨v1, w1, hr, by unfold OI; simpa using hown, hg⟩

theorem step_append_all {E : Prop} {w0 : World} (base : Nat) (hgd : o.guard = none) (s x : Operand) (t e : TypeId) (k : IntKind) (bytes : Nat)
    (ho : o.op = .call { callee := .builtin .append, args := #[s, x], argTypes := #[t, t] }) (ht : P.underlying t = some (.slice e))
    (hinfo : (P.info? e).map (fun i => (i.zero, i.size, i.bytes)) = some (some (.int k 0), 1, bytes))
    (v : Value) (xs ys : List Int) (A : Option Addr) (m c : Nat) (hm : m = ys.length) (hs : a.eval s = v) (hx : a.eval x = .slice A m c) (HO : OI W base e k v xs) (HR : RI W k A ys) (hA : A = none → m = 0 ∧ c = 0)
    (HB : Below base w0 W) (hbase : base ≤ W.heap.size) (hl : (xs.length + ys.length) * bytes ≤ 140737488355328) (hl2 : xs.length + ys.length ≤ 140737488355328)
    (h : ∀ v1 w1, OI w1 base e k v1 (xs ++ ys) → Below base w0 w1 → W.grownBy w1 v.ownBlock → K (a.put o.dst v1) w1) :
    if Region.wanted o (yielded ops a.tmps) = true then Oper.wp P o a W K Q else E := by
  have hw : Region.wanted o (yielded ops a.tmps) = true := by simp [Region.wanted, hgd]
  rw [if_pos hw]
  obtain ⟨v1, w1, hr, hown, hg⟩ := run_append_all (P := P) base t o.type e k bytes ht hinfo v xs ys A m c hm HO HR hA hbase hl hl2
  unfold Oper.wp execOp
  simp only [ho, resolve, invoke, builtin, Sem.run_bind, Sem.run_pure, Result.andThen_ok, List.map_toArray, List.map_cons, List.map_nil, hs, hx, hr]
  exact h v1 w1 hown (HB.grown hg hbase (fun q hq => ((World.ownsRow.lt HO) q hq).1)) hg

theorem wp_append_all {rest : List Oper} {w0 : World} (base : Nat) (hgd : o.guard = none) (s x : Operand) (t e : TypeId) (k : IntKind) (bytes : Nat)
    (ho : o.op = .call { callee := .builtin .append, args := #[s, x], argTypes := #[t, t] }) (ht : P.underlying t = some (.slice e))
    (hinfo : (P.info? e).map (fun i => (i.zero, i.size, i.bytes)) = some (some (.int k 0), 1, bytes))
    (v : Value) (xs ys : List Int) (A : Option Addr) (m c : Nat) (hm : m = ys.length) (hs : a.eval s = v) (hx : a.eval x = .slice A m c) (HO : OI W base e k v xs) (HR : RI W k A ys) (hA : A = none → m = 0 ∧ c = 0)
    (HB : Below base w0 W) (hbase : base ≤ W.heap.size) (hl : (xs.length + ys.length) * bytes ≤ 140737488355328) (hl2 : xs.length + ys.length ≤ 140737488355328)
    (h : ∀ v1 w1, OI w1 base e k v1 (xs ++ ys) → Below base w0 w1 → W.grownBy w1 v.ownBlock → wpList P ops Q rest (a.put o.dst v1) w1) :
    wpList P ops Q (o :: rest) a W :=
  wpList_step fun K hK => step_append_all base hgd s x t e k bytes ho ht hinfo v xs ys A m c hm hs hx HO HR hA HB hbase hl hl2 (fun v1 w1 h1 h2 h3 => hK _ _ (h v1 w1 h1 h2 h3))
end

/-- What is cut from the front of an owned slice. -/
theorem OI.cut {w : World} {base e : Nat} {k : IntKind} {A : Option Addr} {n c : Nat} {xs : List Int} (h : OI w base e k (.slice A n c) xs) (m : Nat) (hm : m ≤ n) : OI w base e k (.slice A m c) (xs.take m) := by
  have hn : xs.length = n := by
    rcases h.2 with ⟨h1, h2⟩ | ⟨g, cap, cur, h1, _⟩
    · simp at h1; omega
    · simp at h1; omega
  unfold OI
  have hl : (xs.take m).length = m := by simp; omega
  rw [hl]
  refine ⟨by simp; omega, ?_⟩
  rcases h.2 with ⟨h1, h2⟩ | ⟨g, cap, cur, h1, h2, h3, h4, h5, h6, h7⟩
  · simp at h1
    refine .inl ⟨?_, by omega⟩
    simp [h1]; omega
  · simp at h1
    obtain ⟨rfl, rfl, rfl⟩ := h1
    refine .inr ⟨g, c, cur, rfl, h2, h3, by omega, h5, h6, ?_⟩
    have := congrArg (List.take m) h7
    rw [List.take_take] at this
    simp only [Nat.mul_one] at this ⊢
    rw [Nat.min_eq_left (by omega)] at this
    rw [this, List.map_take]
theorem OI.nil_cap {w : World} {base e : Nat} {k : IntKind} {A : Option Addr} {n c : Nat} {xs : List Int} (h : OI w base e k (.slice A n c) xs) : (A = none → n = 0 ∧ c = 0) ∧ n ≤ c := by
  rcases h.2 with ⟨h1, h2⟩ | ⟨g, cap, cur, h1, _, _, h4, _⟩
  · cases h1; exact ⟨fun _ => ⟨rfl, rfl⟩, Nat.le_refl _⟩
  · cases h1; exact ⟨fun h => by simp at h, h4⟩
theorem mem_takeL_range {xs : List Int} {n k q : Int} (h : q ∈ takeL xs n k) : 0 ≤ q ∧ q < n := by
  have := mem_pickL.1 (List.mem_of_mem_take h)
  omega
theorem taken_mem {xs : List Int} {n k : Int} (hf : fitsB xs n = true) (q : Int) : decide (q ∈ listB xs n ++ takeL xs n k) = takeF xs n k q := by
  unfold takeF
  rw [Bool.eq_iff_iff]
  simp only [decide_eq_true_eq, List.mem_append, Bool.or_eq_true, mem_list hf]
theorem OI.ri {w : World} {base e : Nat} {k : IntKind} {A : Option Addr} {n c : Nat} {xs : List Int} (h : OI w base e k (.slice A n c) xs) : RI w k A xs := by
  obtain ⟨A', c', he, hr⟩ := h.reads
  cases he
  exact hr
theorem RI.drew {w : World} {k : IntKind} {A : Option Addr} {xs : List Int} (h : RI w k A xs) : RI w.drew k A xs := h.below (Below.refl _ _).drew
section takeR
variable (A : Option Addr) (c : Nat) (xs : List Int) (n k : Int) (w : World)
set_option maxHeartbeats 800000 in
theorem takeR_form (hl : xs.length ≤ 600) (hr : RI w .u8 A xs) (hby : Byt xs) (hf : fitsB xs n = false) :
    Calls Try.prog 9 #[.slice A xs.length c, .int .i64 n, .int .i64 k] w fun e w' => e = .returned (.tuple #[.slice none 0 0, .slice none 0 0, .int .i64 4]) ∧ w = w' := by
  have HR := Lib.hid hr
  have HY := Lib.hid hby
  have HF := Lib.hid hf
  clear hr hby hf
  go_enter Try.func9, Try.ntmps9
  go_wp2_with (go_at_call 17; refine (fitsR_any _ _ _ _ _ hl HR.out HY.out).mono ?_; rw [HF.out]; rintro e w' ⟨rfl, rfl⟩)
  go_ret3
  exact ⟨rfl, rfl⟩
set_option maxHeartbeats 800000 in
theorem takeR_arg (hl : xs.length ≤ 600) (hr : RI w .u8 A xs) (hby : Byt xs) (hf : fitsB xs n = true) (hk : k < 0) :
    Calls Try.prog 9 #[.slice A xs.length c, .int .i64 n, .int .i64 k] w fun e w' => e = .returned (.tuple #[.slice none 0 0, .slice none 0 0, .int .i64 1]) ∧ w = w' := by
  have HR := Lib.hid hr
  have HY := Lib.hid hby
  have HF := Lib.hid hf
  clear hr hby hf
  go_enter Try.func9, Try.ntmps9
  go_wp2_with (go_at_call 17; refine (fitsR_any _ _ _ _ _ hl HR.out HY.out).mono ?_; rw [HF.out]; rintro e w' ⟨rfl, rfl⟩)
  go_ret3
  exact ⟨rfl, rfl⟩

/-- What Take of the reference gives. -/
def GivesTakeR (xs : List Int) (n k : Int) (w : World) (en : Ending) (w' : World) : Prop :=
  (((freeL xs n).length : Int) < k → en = .returned (.tuple #[.slice none 0 0, .slice none 0 0, .int .i64 16]) ∧ Below w.heap.size w w') ∧
  (k ≤ (freeL xs n).length → GivesTake w (sizeI n) (takeF xs n k) (takeL xs n k) en w')

set_option maxHeartbeats 800000 in
theorem takeR_ok (hl : xs.length ≤ 600) (hr : RI w .u8 A xs) (hby : Byt xs) (hf : fitsB xs n = true) (hk : 0 ≤ k) :
    Calls Try.prog 9 #[.slice A xs.length c, .int .i64 n, .int .i64 k] w (GivesTakeR xs n k w) := by
  have HR := Lib.hid hr
  have HY := Lib.hid hby
  have HF := Lib.hid hf
  have hn := (fitsB_true.1 hf).2.1
  have hn0 := (fitsB_true.1 hf).1
  have hk' : ¬ k < 0 := by omega
  clear hr hby hf
  go_enter Try.func9, Try.ntmps9
  go_wp2_with (go_at_call 17; refine (fitsR_any _ _ _ _ _ hl HR.out HY.out).mono ?_; rw [HF.out]; rintro e w' ⟨rfl, rfl⟩)
  go_loopw [9, 10] (fun u i wr => ∃ (j : Int), 0 ≤ j ∧ j ≤ n ∧ i = .int .i64 j ∧ OI wr w.heap.size 3 .i64 u (pickL (freeF xs) j.toNat) ∧ Below w.heap.size w wr) (fun _ i _ => (n - intOf i).toNat)
  case atStart => exact ⟨0, by omega, hn0, rfl, OI.nil _ _ _ _, Below.refl _ _⟩
  case round =>
    obtain ⟨j, hj0, hjn, rfl, hgot, hbw⟩ := hrel
    have hsz := hbw.size
    by_cases hlt : j < n
    · have hpl := pickL_length (freeF xs) j.toNat
      cases hh : hasB xs j with
      | true =>
        have HH := Lib.hid hh
        have HF1 : Hid (pickL (freeF xs) (j + 1).toNat = pickL (freeF xs) j.toNat) := Lib.hid (pick_step_miss hj0 (by simp [freeF, hh]))
        clear hh
        go_wp2_with (go_at_call 24; refine (hasR_any _ _ _ _ _ (by omega) (by omega) (HR.out.below hbw) HY.out).mono ?_; rw [HH.out]; rintro e w' ⟨rfl, rfl⟩)
        go_roundw
        case rel => exact ⟨j + 1, by omega, by omega, rfl, by rw [HF1.out]; exact hgot, hbw⟩
        case measure => simp [intOf]; omega
      | false =>
        have HH := Lib.hid hh
        have HF1 : Hid (pickL (freeF xs) (j + 1).toNat = pickL (freeF xs) j.toNat ++ [j]) := Lib.hid (pick_step_hit hj0 (by simp [freeF, hh]))
        clear hh
        go_wp2_with (first
          | (go_at_call 24; refine (hasR_any _ _ _ _ _ (by omega) (by omega) (HR.out.below hbw) HY.out).mono ?_; rw [HH.out]; rintro e w' ⟨rfl, rfl⟩)
          | (at_builtin; refine wp_append1 w.heap.size rfl (.tmp 26) (.tmp 28) 24 3 .i64 8 rfl Try.underlying24 Try.info3 (by decide) _ (pickL (freeF xs) j.toNat) j rfl rfl hgot hbw hsz (by omega) ?_; intro v1 w1 hown1 hbel1 hgr1))
        go_roundw
        case rel => exact ⟨j + 1, by omega, by omega, rfl, by rw [HF1.out]; exact hown1, hbel1⟩
        case measure => simp [intOf]; omega
    · have hje : j = n := by omega
      subst hje
      have hpl := pickL_length (freeF xs) j.toNat
      obtain ⟨fr, hfr⟩ : ∃ fr, fr = freeL xs j := ⟨_, rfl⟩
      have hfr2 : pickL (freeF xs) j.toNat = fr := hfr.symm
      rw [hfr2] at hgot hpl
      obtain ⟨Bg, cg, rfl, hrg⟩ := hgot.reads
      have hnc := hgot.nil_cap
      have HFR := Lib.hid hfr
      clear hfr hfr2 hrg
      by_cases hsp : (fr.length : Int) < k
      · go_wp2
        go_ret3
        exact ⟨fun _ => ⟨rfl, hbw⟩, fun h => by rw [← HFR.out] at h; omega⟩
      · obtain ⟨m, rfl⟩ := Int.eq_ofNat_of_zero_le hk
        have hm : m ≤ fr.length := by omega
        have hcut := Lib.hid (hgot.cut m hm)
        obtain ⟨tk, htk⟩ : ∃ tk, tk = fr.take m := ⟨_, rfl⟩
        have hT : tk = takeL xs j m := by rw [htk, HFR.out]; unfold takeL; simp
        have hlt0 : (listB xs j).length ≤ 4096 := by rw [listB_yes HF.out]; have := pickL_length (hasB xs) j.toNat; omega
        obtain ⟨l5, hl5⟩ : ∃ l5, l5 = listB xs j ++ tk := ⟨_, rfl⟩
        have hl5n : l5.length ≤ 10000 := by rw [hl5, htk]; simp; omega
        have htl : tk.length = m := by rw [htk]; simp; omega
        have HRNG : Hid (∀ q ∈ l5, 0 ≤ q ∧ q < j) := Lib.hid (fun q hq => by
          rw [hl5] at hq
          rcases List.mem_append.1 hq with h | h
          · exact has_range HF.out ((mem_list HF.out q).1 h)
          · rw [hT] at h; exact mem_takeL_range h)
        have HMEM : Hid (∀ q, decide (q ∈ l5) = takeF xs j m q) := Lib.hid (fun q => by rw [hl5, hT]; exact taken_mem HF.out q)
        have HL5 := Lib.hid hl5
        have HT := Lib.hid hT
        rw [← htk] at hcut
        have HTL := Lib.hid htl
        clear hl5 hT htk htl
        have HRW := Lib.hid (HR.out.below hbw).drew
        have HCW := Lib.hid hcut.out.ri.drew
        have HOW := Lib.hid hcut.out.drew
        have hbd := Lib.hid hbw.drew
        have hszd : w.heap.size ≤ wr.drew.heap.size := hsz
        go_wp2_with fail
        cases Bg with
        | none =>
          obtain ⟨h0, rfl⟩ := hnc.1 rfl
          obtain rfl : m = 0 := by omega
          obtain rfl : fr = [] := List.eq_nil_of_length_eq_zero h0
          clear hcut hgot
          go_region_law (first
            | (go_simp; go_at_call 18; refine (listR_any _ _ _ _ _ hl HRW.out HY.out).mono ?_; rintro e w6 ⟨v6, rfl, hown6, hbel6⟩)
            | (go_simp; go_at_call 26; refine (of_any _ _ _ _ _ hn0 hn HR7.out (by omega) HRNG.out).mono ?_; rintro e w8 ⟨ys, v8, hmap8, rfl, hown8, hbel8⟩)
            | (refine step_append_all wr.drew.heap.size rfl (.tmp 36) (.tmp 39) 24 3 .i64 8 rfl Try.underlying24 Try.info3 _ (listB xs j) tk none 0 0 HTL.out.symm rfl rfl hown6 (HCW.out.below hbel6) (fun _ => ⟨rfl, rfl⟩) hbel6 hbel6.size (by have := HTL.out; omega) (by have := HTL.out; omega) ?_; intro v7 w7 hown7 hbel7 hgr7; rw [← HL5.out] at hown7; obtain ⟨B7, c7, rfl, hr7⟩ := hown7.reads; have HR7 := Lib.hid hr7; clear hr7))
          go_wp2
          go_ret3
          refine ⟨fun h => by rw [← HFR.out] at h; omega, fun _ => ⟨ys, v8, _, hmap8.congr HMEM.out, rfl, hown8.mono ?_, ?_, below_then' hbd.out hszd (below_then hbel7 hbel8)⟩⟩
          · exact Nat.le_trans hszd hbel7.size
          · first | rw [← HT.out] | rw [show takeL xs j 0 = tk from HT.out.symm]
            exact (HOW.out.below hbel7).below hbel8
        | some ad =>
          have hmc : (m : Int) ≤ (cg : Int) := by omega
          clear hcut hgot
          go_region_law (first
            | (go_simp; go_at_call 18; refine (listR_any _ _ _ _ _ hl HRW.out HY.out).mono ?_; rintro e w6 ⟨v6, rfl, hown6, hbel6⟩)
            | (go_simp; go_at_call 26; refine (of_any _ _ _ _ _ hn0 hn HR7.out (by omega) HRNG.out).mono ?_; rintro e w8 ⟨ys, v8, hmap8, rfl, hown8, hbel8⟩)
            | (refine step_append_all wr.drew.heap.size rfl (.tmp 36) (.tmp 39) 24 3 .i64 8 rfl Try.underlying24 Try.info3 _ (listB xs j) tk (some ad) m cg HTL.out.symm rfl rfl hown6 (HCW.out.below hbel6) (fun h => by cases h) hbel6 hbel6.size (by have := HTL.out; omega) (by have := HTL.out; omega) ?_; intro v7 w7 hown7 hbel7 hgr7; rw [← HL5.out] at hown7; obtain ⟨B7, c7, rfl, hr7⟩ := hown7.reads; have HR7 := Lib.hid hr7; clear hr7))
          go_wp2
          go_ret3
          refine ⟨fun h => by rw [← HFR.out] at h; omega, fun _ => ⟨ys, v8, _, hmap8.congr HMEM.out, rfl, hown8.mono ?_, ?_, below_then' hbd.out hszd (below_then hbel7 hbel8)⟩⟩
          · exact Nat.le_trans hszd hbel7.size
          · first | rw [← HT.out] | rw [show takeL xs j 0 = tk from HT.out.symm]
            exact (HOW.out.below hbel7).below hbel8
end takeR
end Go.Proofs.Ytpehbffbflcgnaa
