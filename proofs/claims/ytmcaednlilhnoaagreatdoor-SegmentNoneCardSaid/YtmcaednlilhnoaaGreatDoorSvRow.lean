/- SegmentNone: for every input the law answers true, and what it is handed reads as before; the tables that the program's own text lays are tied. No condition. -/
import Derived.Test.YtmcaednlilhnoaaGreatDoorRows
import Derived.Test.YtmcaednlilhnoaaGreatDoorCards
import Derived.Test.YtmcaednlilhnoaaGreatDoorTie
import Derived.ProofKit
import Derived.LaidMore
import Derived.OpenShut
import Derived.SevenTiedAt
import Derived.Test.YtmcaednlilhnoaaGreatDoorJo
import Derived.Test.YtmcaednlilhnoaaGreatDoorSv
namespace Go.Proofs.YtmcaednlilhnoaaGreatDoor
open Go.ChangeShapes Go.WideShapes Go.ChangeAt Go.RowKit Go.Zone Go.ChangeMaps
/-- The door's own heap meets the condition. -/
theorem door_met (os : Os) (args : Array Value) : laidMetH Tryz.prog Rows.segmentNoneRow.laid ((World.doorLaid Tryz.prog 24 os).forCall (fun _ _ => 0) ⟨#[], args, []⟩).memory :=
  laidMetH_of_parts3 (fuel := 8) (laidMet_of_run' 8 (by kernel_rfl) (by kernel_rfl)) (by kernel_rfl) (by kernel_rfl)
theorem pars_segnone : Tryz.f3.params = #[3] := by kernel_rfl
set_option maxRecDepth 100000 in
theorem segnone_lifted (os : Os) (started : os.Started) (H : Type) (enc : TypeId × Value → H) :
    ReturnsInHanded {} Tryz.checked os 3 .any (fun w args => (Rows.segmentNoneSpec.pre enc Tryz.prog Tryz.f3 Rows.segmentNoneRow.domain false w args ∧ laidMetH Tryz.prog Rows.segmentNoneRow.laid w) ∧ sizedMet enc Tryz.prog Tryz.f3 (OpenSpec.ofChange Rows.segmentNoneSpec) false w args)
      (Rows.segmentNoneSpec.post enc Tryz.prog Tryz.f3 false true false false) := by
  refine returnsInHanded_of_change_and (C := Tryz.checked) (X := fun w _ => laidMetH Tryz.prog Rows.segmentNoneRow.laid w) (fun _ _ _ hh h => h.of_heap hh) own_ started (by kernel_rfl) Tryz.func3
    (ChangeSpec.witness_shaped (enc := enc) (C := Tryz.checked) (os := os) (X := fun w _ => laidMetH Tryz.prog Rows.segmentNoneRow.laid w) false (World.doorLaid Tryz.prog 24 os) #[.int .i64 0] 8 rfl (World.shaped_of_RefB (by kernel_rfl) (by kernel_rfl)) (by kernel_rfl) (by kernel_rfl) (by kernel_rfl) (door_met os _)) ?_
  intro W base args ds gs before hval0 hW _ hz _ _
  have hval : ∀ (j : Nat) t v, Tryz.f3.params[j]? = some t → args[j]? = some v → Value.okWide Tryz.prog W .any base t v := hval0
  have hW' := hW
  obtain ⟨p, q, hA0, hV, rfl, hfz, hnd⟩ := hW
  have hA : DataW.TrodAll enc Tryz.prog W 0 (fun _ => true) true Tryz.f3.params.toList args.toList ds p := hA0
  rw [pars_segnone] at hA hval
  obtain ⟨v0, d0, rfl, rfl, h0⟩ := trodAll_one hA
  obtain ⟨rfl, rfl⟩ := trodVars_none hV
  obtain ⟨i, rfl, rfl, rfl, wi⟩ := open_int u_int (hval 0 _ v0 rfl rfl) h0
  clear hA0 hval0 hz
  simp only [List.append_nil] at hW'
  refine (segnone_law i W).mono fun e W' ⟨he, hg⟩ => ?_
  subst he
  exact ⟨_, rfl, post_of_below (pa := []) (pv := []) hW' (fun _ _ _ => trodAll_mk1 (shut_bool u_bool _))
    (fun sp hsp => trodAll_mk1 (shut_int u_int wi)) (fun _ _ => rfl) (by simp)
    hg (ok_one (by kernel_rfl) rfl (okWide_bool_mk u_bool _))⟩
set_option maxRecDepth 100000 in
theorem jf_place : (Rows.segmentNoneRow.inPlace == Tryz.prog.inPlace 3) = true := by kernel_rfl
set_option maxRecDepth 100000 in
theorem jf_unfollowed : (Rows.segmentNoneRow.unfollowed == Tryz.prog.unfollowed 3) = true := by kernel_rfl
set_option maxRecDepth 100000 in
theorem jf_recurses : (Rows.segmentNoneRow.recurses == Tryz.prog.recurses 3) = true := by kernel_rfl
set_option maxRecDepth 100000 in
theorem jf_named : (Rows.segmentNoneRow.named == Tryz.prog.varsNamed 3) = true := by kernel_rfl
set_option maxRecDepth 100000 in
theorem jf_looks : true = Tryz.prog.looks [] := by kernel_rfl
set_option maxRecDepth 100000 in
theorem jf_goes : false = Rows.segmentNoneRow.goesBy Tryz.prog := by kernel_rfl
set_option maxRecDepth 100000 in
theorem jf_all : joinedFacts Tryz.prog 3 Tryz.f3 Rows.segmentNoneSpec Rows.segmentNoneRow = true := by
  unfold joinedFacts
  simp only [Bool.and_eq_true]
  and_intros
  all_goals first
    | with_reducible exact jf_place
    | with_reducible exact jf_unfollowed
    | with_reducible exact jf_recurses
    | with_reducible exact jf_named
    | kernel_rfl
theorem segnone_row : Rows.SegmentNoneSaid :=
  OpenClaim.holds_of_wide 3 Tryz.f3 rfl rfl rfl rfl rfl rfl rfl ⟨rfl, rfl, rfl, rfl, rfl⟩ rfl rfl rfl rfl rfl (by kernel_rfl) Tryz.func3 jf_all
    (of_decide_eq_true (by kernel_rfl)) (by unfold Func.isWrapper; first | (rw [if_pos (by decide +kernel)]; kernel_rfl) | (rw [if_neg (by decide +kernel)]; exact ⟨rfl, rfl⟩))
    (fun os started H enc _ => segnone_lifted os started H enc)
theorem segnone_holds : Rows.SegmentNoneCardSaid :=
  Claim7.holds_tied_plain_at .later [] [.data, .data, .data] true Rows.segmentNoneCard.stood.harness true
    segnone_row (fun _ h => by cases h) (by kernel_rfl) (fun _ h => by cases h) segmentNone_row_tie rfl ⟨rfl, rfl⟩ (by kernel_rfl) rfl
    (fun f fn hf hfn => by
      obtain rfl : f = 3 := Option.some.inj ((show Tryz.prog.funcNamed "isinglass/isinglasslaw23.SegmentNone" = some 3 by kernel_rfl).symm.trans hf) |>.symm
      obtain rfl : fn = Tryz.f3 := (Option.some.inj (Tryz.func3.symm.trans hfn)).symm
      exact ⟨jf_looks, fun j t ht => by
        rw [pars_segnone] at ht
        have hm : t ∈ [3] := by simpa using Array.mem_of_getElem? ht
        have hall : ([3].all fun u => !Tryz.prog.wantsStandIn u) = true := by kernel_rfl
        exact (show Tryz.prog.wantsStandIn t = false by simpa using List.all_eq_true.1 hall t hm)⟩)
    jf_goes
#print axioms segnone_holds
end Go.Proofs.YtmcaednlilhnoaaGreatDoor
