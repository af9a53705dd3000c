/- The row and the tied card of JudgeOf. -/
import Derived.Test.YtodbpblicjadjaaGreatDoorTie
import Derived.Test.YtodbpblicjadjaaGreatDoorCards
import Derived.Test.YtodbpblicjadjaaGreatDoorJ2
import Derived.ProofKit
import Derived.OpenShut
import Derived.LaidMore
import Derived.Lay
import Derived.SevenTiedAt
import Derived.Stop.Joined
namespace Go.Proofs.YtodbpblicjadjaaGreatDoor.judgeOf
open Go.ChangeShapes Go.WideShapes Go.ChangeAt Go.RowKit
set_option linter.unusedVariables false

theorem own : ownKnob Tryz.prog.godebug = none := by kernel_rfl
set_option maxRecDepth 100000 in
/-- The listed table judge.names, read at its sixth element. -/
theorem name_cell {W : World} (h : laidMetH Tryz.prog Rows.judgeOfRow.laid W) : 0 < W.heap.size ∧ W.cell? ⟨0, 5, none⟩ = some (.string ⟨#[117, 110, 114, 101, 97, 100]⟩) := by
  rw [MakeChecks.laidMetH_plain _ _ _ (by kernel_rfl)] at h
  obtain ⟨ps, ⟨_, _, _, _, _, _, _, _, _, _, ⟨g, t, cs, fuel, p, q, hg, ht, hv, hd, _, _⟩, _⟩, _, _⟩ := h
  obtain rfl := Option.some.inj ((show Tryz.prog.globalNamed "catenary/judge.names" = some 0 by kernel_rfl).symm.trans hg)
  obtain rfl := Option.some.inj ((show (Tryz.prog.globals[0]?).map (·.type) = some 131 by kernel_rfl).symm.trans ht)
  obtain ⟨xs, m, _, ex, _, hl, hel⟩ := DataW.trod_array Tryz.underlying131 hd
  have c9 : Tryz.prog.cellsOf 9 = 1 := by kernel_rfl
  have hE := hel 5 (by decide)
  have h5 : 5 < xs.length := by rw [hl]; decide
  rw [c9, Nat.mul_one, List.getElem?_eq_getElem h5] at hE
  obtain ⟨s, e1, e2, _⟩ := DataW.trod_string Tryz.underlying9 hE
  have e3 : (xs.map (·.1)) = [.lit (.string []), .lit (.string [117, 110, 107, 110, 111, 119, 110]), .lit (.string [97, 103, 97, 105, 110]), .lit (.string [119, 114, 111, 110, 103]), .lit (.string [109, 105, 115, 112, 108, 97, 99, 101, 100]), .lit (.string [117, 110, 114, 101, 97, 100]), .lit (.string [117, 110, 116, 114, 117, 101])] := (DataW.agg.inj (Prod.mk.inj ex).1).symm
  have e4 : (xs.map (·.1))[5]? = some (.lit (.string [117, 110, 114, 101, 97, 100])) := by rw [e3]; rfl
  rw [List.getElem?_map, List.getElem?_eq_getElem h5, e2] at e4
  have e5 : s.data.toList = [117, 110, 114, 101, 97, 100] := Lit.string.inj (DataW.lit.inj (Option.some.inj e4))
  have hz : s = ⟨#[117, 110, 114, 101, 97, 100]⟩ := by
    cases s with
    | mk d => exact congrArg ByteArray.mk (Array.toList_inj.1 e5)
  have hcell : W.cell? ⟨0, 5, none⟩ = some (.string s) := by
    rw [World.var?_cell hg hv 5]
    have h0 : ((cs.toList.drop 5).take 1)[0]? = some (.string s) := by rw [e1]; rfl
    simpa using h0
  exact ⟨World.block_lt_of_cell? W _ hcell, hz ▸ hcell⟩

set_option maxRecDepth 100000 in
theorem lifted (os : Os) (started : os.Started) (H : Type) (enc : TypeId × Value → H) :
    ReturnsInHanded {} Tryz.checked os 4 .any (fun w args => (Rows.judgeOfSpec.pre enc Tryz.prog Tryz.f4 Rows.judgeOfRow.domain false w args ∧ laidMetH Tryz.prog Rows.judgeOfRow.laid w) ∧ sizedMet enc Tryz.prog Tryz.f4 (OpenSpec.ofChange Rows.judgeOfSpec) false w args)
      (Rows.judgeOfSpec.post enc Tryz.prog Tryz.f4 false true false false) := by
  refine returnsInHanded_of_change_and (C := Tryz.checked) (X := fun w _ => laidMetH Tryz.prog Rows.judgeOfRow.laid w) (fun _ _ _ hh h => h.of_heap hh) own started (by kernel_rfl) Tryz.func4
    (ChangeSpec.witness_shaped (enc := enc) (C := Tryz.checked) (os := os) (X := fun w _ => laidMetH Tryz.prog Rows.judgeOfRow.laid w) false (World.laidAll Tryz.prog os Rows.judgeOfRow.laid) #[.int .i64 0] 8 (World.laidAll_os _ _ _)
      (World.shaped_of_ZipB (by kernel_rfl) (by kernel_rfl)) (by kernel_rfl) (by kernel_rfl) (by kernel_rfl)
      (by rw [MakeChecks.laidMetH_plain _ _ _ (by kernel_rfl)]; exact laidMet_laidAll _ (by kernel_rfl) (by kernel_rfl))) ?_
  intro W base args ds gs before hval0 hW hc _ hL _
  have hval : ∀ (j : Nat) t v, Tryz.f4.params[j]? = some t → args[j]? = some v → Value.okWide Tryz.prog W .any base t v := hval0
  have hW' := hW
  obtain ⟨p, q, hA0, hV, rfl, _, _⟩ := hW
  have hA : DataW.TrodAll enc Tryz.prog W 0 (fun _ => true) true Tryz.f4.params.toList args.toList ds p := hA0
  rw [Tryz.params4] at hA hval
  obtain ⟨v0, d0, rfl, rfl, h0⟩ := trodAll_one hA
  obtain ⟨rfl, rfl⟩ := trodVars_none hV
  obtain ⟨x, rfl, rfl, rfl, wx⟩ := open_int Tryz.underlying3 (hval 0 3 v0 rfl rfl) h0
  simp only [List.append_nil] at hW'
  obtain ⟨hpos, hn⟩ := name_cell hL
  refine (of_law x W hpos hn).mono fun e W' ⟨he, bel⟩ => ?_
  subst he
  exact ⟨_, rfl, _, _, _, [], _, [], hW', trodAll_mk1 (shut_bool Tryz.underlying4 _), trodAll_mk1 (shut_int Tryz.underlying3 wx), rfl, bel.frame _, fun h => by cases h⟩

theorem holds : Rows.JudgeOfSaid :=
  OpenClaim.holds_of_wide 4 Tryz.f4 rfl rfl rfl rfl rfl rfl rfl ⟨rfl, rfl, rfl, rfl, rfl⟩ rfl rfl rfl rfl rfl (by kernel_rfl) Tryz.func4 (by kernel_rfl)
    (of_decide_eq_true (by kernel_rfl)) (by unfold Func.isWrapper; first | (rw [if_pos (by decide +kernel)]; kernel_rfl) | (rw [if_neg (by decide +kernel)]; exact ⟨rfl, rfl⟩))
    (fun os started H enc _ => lifted os started H enc)
theorem proved : Rows.JudgeOfCardSaid :=
  Claim7.holds_tied_plain_at .later [] [.data, .data, .pinned] true (true, "44966ecda6a4c976f136efe2f7a47447f98c48b761e44299474f0c1cc47c383e") true holds (fun _ h => by cases h) (by kernel_rfl) (fun _ h => by cases h) judgeOf_row_tie rfl ⟨rfl, rfl⟩ (by kernel_rfl) rfl
    (fun f fn hf hfn => by
      obtain rfl : f = 4 := Option.some.inj ((show Tryz.prog.funcNamed "catenary/catenarylaw36.JudgeOf" = some 4 by kernel_rfl).symm.trans hf) |>.symm
      obtain rfl : fn = Tryz.f4 := (Option.some.inj (Tryz.func4.symm.trans hfn)).symm
      exact ⟨by kernel_rfl, fun j t ht => by
        rw [Tryz.params4] at ht
        have hm : t ∈ [3] := by simpa using Array.mem_of_getElem? ht
        have hall : ([3].all fun u => !Tryz.prog.wantsStandIn u) = true := by kernel_rfl
        exact (show Tryz.prog.wantsStandIn t = false by simpa using List.all_eq_true.1 hall t hm)⟩)
    (by kernel_rfl)
#print axioms proved
end Go.Proofs.YtodbpblicjadjaaGreatDoor.judgeOf
