/- BuildBounds: for every input the law answers true, and what it is handed reads as before; the tables that the program's own text lays are tied. No condition. -/
import Derived.Test.YtcffcblfmlclnaaGreatDoorRows
import Derived.Test.YtcffcblfmlclnaaGreatDoorCards
import Derived.Test.YtcffcblfmlclnaaGreatDoorTie
import Derived.ProofKit
import Derived.LaidMore
import Derived.OpenShut
import Derived.SevenTiedAt
import Derived.Test.YtcffcblfmlclnaaGreatDoorOpenC
import Derived.Test.YtcffcblfmlclnaaGreatDoorBv
namespace Go.Proofs.YtcffcblfmlclnaaGreatDoor
open Go.ChangeShapes Go.WideShapes Go.ChangeAt Go.RowKit Go.Zone Go.ChangeMaps
section
variable {H : Type} {enc : TypeId × Value → H} {P : Program} {w : World} {base : Nat} {spare : Nat → Bool} {held : Bool}
theorem trodAll_five {t t' t'' t3 t4 : TypeId} {args : Array Value} {ds : List (DataW H)} {ps : List MemPlace} (h : DataW.TrodAll enc P w base spare held [t, t', t'', t3, t4] args.toList ds ps) :
    ∃ v v' v'' v3 v4 d d' d'' d3 d4 p p' p'' p3 p4, args = #[v, v', v'', v3, v4] ∧ ds = [d, d', d'', d3, d4] ∧ ps = p ++ (p' ++ (p'' ++ (p3 ++ p4))) ∧ DataW.Trod enc P w base spare held t v d p ∧ DataW.Trod enc P w base spare held t' v' d' p' ∧ DataW.Trod enc P w base spare held t'' v'' d'' p'' ∧ DataW.Trod enc P w base spare held t3 v3 d3 p3 ∧ DataW.Trod enc P w base spare held t4 v4 d4 p4 := by
  obtain ⟨v, vs, d, ds', p, q, hargs, rfl, rfl, hd, hrest⟩ := trodAll_cons h
  obtain ⟨v', vs', d', ds'', p', q', rfl, rfl, rfl, hd', hrest'⟩ := trodAll_cons hrest
  obtain ⟨v'', vs'', d'', ds''', p'', q'', rfl, rfl, rfl, hd'', hrest''⟩ := trodAll_cons hrest'
  obtain ⟨v3, vs3, d3, ds3, p3, q3, rfl, rfl, rfl, hd3, hrest3⟩ := trodAll_cons hrest''
  obtain ⟨v4, vs4, d4, ds4, p4, q4, rfl, rfl, rfl, hd4, hrest4⟩ := trodAll_cons hrest3
  obtain ⟨rfl, rfl, rfl⟩ := trodAll_nil hrest4
  exact ⟨v, v', v'', v3, v4, d, d', d'', d3, d4, p, p', p'', p3, p4, by cases args; simp_all, rfl, by simp, hd, hd', hd'', hd3, hd4⟩
theorem trodAll_mk5 {t t' t'' t3 t4 : TypeId} {v v' v'' v3 v4 : Value} {d d' d'' d3 d4 : DataW H} {p p' p'' p3 p4 : List MemPlace} (h : DataW.Trod enc P w base spare held t v d p) (h' : DataW.Trod enc P w base spare held t' v' d' p')
    (h'' : DataW.Trod enc P w base spare held t'' v'' d'' p'') (h3 : DataW.Trod enc P w base spare held t3 v3 d3 p3) (h4 : DataW.Trod enc P w base spare held t4 v4 d4 p4) : DataW.TrodAll enc P w base spare held [t, t', t'', t3, t4] [v, v', v'', v3, v4] [d, d', d'', d3, d4] (p ++ (p' ++ (p'' ++ (p3 ++ p4)))) := ⟨p, p' ++ (p'' ++ (p3 ++ p4)), h, trodAll_mk4 h' h'' h3 h4, rfl⟩
end
/-- The door's own heap meets the condition. -/
theorem door_met (os : Os) (args : Array Value) : laidMetH Tryz.prog Rows.buildBoundsRow.laid ((World.doorLaid Tryz.prog 24 os).forCall (fun _ _ => 0) ⟨#[], args, []⟩).memory :=
  laidMetH_of_parts3 (fuel := 8) (laidMet_of_run' 8 (by kernel_rfl) (by kernel_rfl)) (by kernel_rfl) (by kernel_rfl)
theorem pars_bounds : Tryz.f3.params = #[22, 26, 3, 24, 3] := by kernel_rfl
set_option maxRecDepth 100000 in
theorem bounds_lifted (os : Os) (started : os.Started) (H : Type) (enc : TypeId × Value → H) :
    ReturnsInHanded {} Tryz.checked os 3 .any (fun w args => (Rows.buildBoundsSpec.pre enc Tryz.prog Tryz.f3 Rows.buildBoundsRow.domain false w args ∧ laidMetH Tryz.prog Rows.buildBoundsRow.laid w) ∧ sizedMet enc Tryz.prog Tryz.f3 (OpenSpec.ofChange Rows.buildBoundsSpec) false w args)
      (Rows.buildBoundsSpec.post enc Tryz.prog Tryz.f3 false true false false) := by
  refine returnsInHanded_of_change_and (C := Tryz.checked) (X := fun w _ => laidMetH Tryz.prog Rows.buildBoundsRow.laid w) (fun _ _ _ hh h => h.of_heap hh) own_ started (by kernel_rfl) Tryz.func3
    (ChangeSpec.witness_shaped (enc := enc) (C := Tryz.checked) (os := os) (X := fun w _ => laidMetH Tryz.prog Rows.buildBoundsRow.laid w) false (World.doorLaid Tryz.prog 24 os) #[.slice none 0 0, .agg #[.int .i64 0, .slice none 0 0, .slice none 0 0, .slice none 0 0, .int .i64 0], .int .i64 0, .slice none 0 0, .int .i64 0] 8 rfl (World.shaped_of_RefB (by kernel_rfl) (by kernel_rfl)) (by kernel_rfl) (by kernel_rfl) (by kernel_rfl) (door_met os _)) ?_
  intro W base args ds gs before hval0 hW _ hz _ _
  have hval : ∀ (j : Nat) t v, Tryz.f3.params[j]? = some t → args[j]? = some v → Value.okWide Tryz.prog W .any base t v := hval0
  have hW' := hW
  obtain ⟨p, q, hA0, hV, rfl, hfz, hnd⟩ := hW
  have hA : DataW.TrodAll enc Tryz.prog W 0 (fun _ => true) true Tryz.f3.params.toList args.toList ds p := hA0
  rw [pars_bounds] at hA hval
  obtain ⟨v0, v1, v2, v3, v4, d0, d1, d2, d3, d4, p0, p1, p2, p3, p4, rfl, rfl, rfl, h0, h1, h2, h3, h4⟩ := trodAll_five hA
  obtain ⟨rfl, rfl⟩ := trodVars_none hV
  have hb : ∀ x ∈ p0 ++ (p1 ++ (p2 ++ (p3 ++ p4))) ++ [], x.block < W.heap.size := fun x hx => by simpa using hW'.lt x hx
  have hz' := List.all_eq_true.1 hz
  have hwt : ∀ (j : Nat) (t : TypeId) (d : DataW H), (Tryz.f3.params.toList ++ Rows.buildBoundsSpec.plain.varTypes Tryz.prog)[j]? = some t → ([d0, d1, d2, d3, d4] ++ [])[j]? = some d → ∀ n ∈ d.weights Tryz.prog t, n ≤ reachBytes := fun j t d ht hd n hn => by
    simpa using hz' _ (DataW.weights_mem_each ht hd n hn)
  obtain ⟨A, n, cs, rfl, hS, hx⟩ := open_cols (hval 0 _ v0 rfl rfl) h0 (hwt 0 _ d0 rfl rfl)
  obtain ⟨c, rfl, hC⟩ := open_cfg (hval 1 _ v1 rfl rfl) h1 (hwt 1 _ d1 rfl rfl)
  obtain ⟨n2, rfl, rfl, rfl, w2⟩ := open_int u_int (hval 2 _ v2 rfl rfl) h2
  obtain ⟨B, m, many, rfl, hM⟩ := open_intl (hval 3 _ v3 rfl rfl) h3 (hwt 3 _ d3 rfl rfl)
  obtain ⟨n4, rfl, rfl, rfl, w4⟩ := open_int u_int (hval 4 _ v4 rfl rfl) h4
  clear hA0 hval0 hz hz' hwt
  simp only [List.append_nil] at hW'
  refine (bounds_law A B n m cs c n2 n4 many W hS hx hC hM).mono fun e W' ⟨he, hg⟩ => ?_
  subst he
  exact ⟨_, rfl, post_of_below (pa := p0 ++ (p1 ++ p3)) (pv := []) hW' (fun _ _ _ => trodAll_mk1 (shut_bool u_bool _))
    (fun sp hsp => by
      have := trodAll_mk5 (stays laid_ (by kernel_rfl) (of_decide_eq_true (by kernel_rfl)) h0 hg (fun y hy => hb y (by simp [hy])) (sp := sp) (fun y hy => hsp y (by simp [hy])))
        (stays laid_ (by kernel_rfl) (of_decide_eq_true (by kernel_rfl)) h1 hg (fun y hy => hb y (by simp [hy])) (sp := sp) (fun y hy => hsp y (by simp [hy])))
        (shut_int u_int w2)
        (stays laid_ (by kernel_rfl) (of_decide_eq_true (by kernel_rfl)) h3 hg (fun y hy => hb y (by simp [hy])) (sp := sp) (fun y hy => hsp y (by simp [hy])))
        (shut_int u_int w4)
      rw [List.nil_append, List.append_nil] at this
      exact this) (fun _ _ => rfl) (by simp)
    hg (ok_one (by kernel_rfl) rfl (okWide_bool_mk u_bool _))⟩
theorem bounds_row : Rows.BuildBoundsSaid :=
  OpenClaim.holds_of_wide 3 Tryz.f3 rfl rfl rfl rfl rfl rfl rfl ⟨rfl, rfl, rfl, rfl, rfl⟩ rfl rfl rfl rfl rfl (by kernel_rfl) Tryz.func3 (by kernel_rfl)
    (of_decide_eq_true (by kernel_rfl)) (by unfold Func.isWrapper; first | (rw [if_pos (by decide +kernel)]; kernel_rfl) | (rw [if_neg (by decide +kernel)]; exact ⟨rfl, rfl⟩))
    (fun os started H enc _ => bounds_lifted os started H enc)
theorem bounds_holds : Rows.BuildBoundsCardSaid :=
  Claim7.holds_tied_plain_at .later [] [.data, .data, .data] true Rows.buildBoundsCard.stood.harness false
    bounds_row (fun _ h => by cases h) (by kernel_rfl) (fun _ h => by cases h) buildBounds_row_tie rfl ⟨rfl, rfl⟩ (by kernel_rfl) rfl
    (fun f fn hf hfn => by
      obtain rfl : f = 3 := Option.some.inj ((show Tryz.prog.funcNamed "isinglass/isinglasslaw22.BuildBounds" = some 3 by kernel_rfl).symm.trans hf) |>.symm
      obtain rfl : fn = Tryz.f3 := (Option.some.inj (Tryz.func3.symm.trans hfn)).symm
      exact ⟨by kernel_rfl, fun j t ht => by
        rw [pars_bounds] at ht
        have hm : t ∈ [22, 26, 3, 24, 3] := by simpa using Array.mem_of_getElem? ht
        have hall : ([22, 26, 3, 24, 3].all fun u => !Tryz.prog.wantsStandIn u) = true := by kernel_rfl
        exact (show Tryz.prog.wantsStandIn t = false by simpa using List.all_eq_true.1 hall t hm)⟩)
    (by kernel_rfl)
#print axioms bounds_holds
end Go.Proofs.YtcffcblfmlclnaaGreatDoor
