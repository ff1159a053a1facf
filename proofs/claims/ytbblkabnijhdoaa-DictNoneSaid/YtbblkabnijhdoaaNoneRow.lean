
/- DictNone: for every input the law answers true, and what it is handed reads as before. No condition. -/
import Derived.Test.YtbblkabnijhdoaaRows
import Derived.ProofKit
import Derived.Test.YtbblkabnijhdoaaOpen
import Derived.Test.YtbblkabnijhdoaaNone
import Derived.Test.YtbblkabnijhdoaaUnd
namespace Go.Proofs.Ytbblkabnijhdoaa
open Go.ChangeShapes Go.WideShapes Go.ChangeAt Go.RowKit Go.Zone Go.ChangeMaps

theorem pars_none : Try.f7.params = #[3, 5, 24] := by kernel_rfl
set_option maxRecDepth 100000 in
theorem none_lifted (os : Os) (started : os.Started) (H : Type) (enc : TypeId × Value → H) :
    ReturnsInHanded {} Try.checked os 7 .any (Rows.dictNoneSpec.pre6 enc Try.prog Try.f7 Rows.dictNoneRow.domain false) (Rows.dictNoneSpec.post enc Try.prog Try.f7 false true false false) := by
  refine returnsInHanded_of_change_sized (C := Try.checked) own_ started (by kernel_rfl) Try.func7
    (ChangeSpec.witness6 (enc := enc) (C := Try.checked) false ⟨#[], #[.int .i64 0, .int .u8 0, .agg #[.int .u8 0, .int .i64 0, .string ⟨#[]⟩]], []⟩ 8 (by kernel_rfl) (by kernel_rfl) (by kernel_rfl) (by kernel_rfl)) ?_
  intro W base args ds gs before hval0 hW hcnd hz _
  have hval : ∀ (j : Nat) t v, Try.f7.params[j]? = some t → args[j]? = some v → Value.okWide Try.prog W .any base t v := hval0
  have hW' := hW
  obtain ⟨p, q, hA0, hV, rfl, hfz, hnd⟩ := hW
  have hA : DataW.TrodAll enc Try.prog W 0 (fun _ => true) true Try.f7.params.toList args.toList ds p := hA0
  rw [pars_none] at hA hval
  obtain ⟨v0, v1, v3, d0, d1, d3, p0, p1, p3, rfl, rfl, rfl, h0, h1, h3⟩ := trodAll_three hA
  obtain ⟨rfl, rfl⟩ := trodVars_none hV
  have hb : ∀ x ∈ p0 ++ p1 ++ p3 ++ [], x.block < W.heap.size := fun x hx => by simpa using hW'.lt x hx
  obtain ⟨n0, rfl, rfl, rfl, w0⟩ := open_int u_int (hval 0 _ v0 rfl rfl) h0
  obtain ⟨n1, rfl, rfl, rfl, w1⟩ := open_int u_u8 (hval 1 _ v1 rfl rfl) h1
  obtain ⟨x, rfl, _⟩ := open_val (hval 2 _ v3 rfl rfl) h3
  clear hA0 hval0
  simp only [List.append_nil, List.nil_append] at hW'
  refine (none_any n0 n1 x W).mono fun e W' ⟨he, hg⟩ => ?_
  subst he
  exact ⟨_, rfl, post_of_below (pa := p3) (pv := []) hW' (fun _ _ _ => trodAll_mk1 (shut_bool u_bool _))
    (fun sp hsp => trodAll_mk3 (shut_int u_int w0) (shut_int u_u8 w1) (stays laid_ (by kernel_rfl) (of_decide_eq_true (by kernel_rfl)) h3 hg (fun y hy => hb y (by simp [hy])) (fun y hy => hsp y (by simp [hy])))) (fun _ _ => rfl) (by simp)
    hg (ok_one (by kernel_rfl) rfl (okWide_bool_mk u_bool _))⟩

theorem none_holds : Rows.DictNoneSaid :=
  OpenClaim.holds_of_wide 7 Try.f7 rfl rfl rfl rfl rfl rfl rfl ⟨rfl, rfl, rfl, rfl, rfl⟩ rfl rfl rfl rfl rfl (by kernel_rfl) Try.func7 (by kernel_rfl)
    (of_decide_eq_true (by kernel_rfl)) (by unfold Func.isWrapper; first | (rw [if_pos (by decide +kernel)]; kernel_rfl) | (rw [if_neg (by decide +kernel)]; exact ⟨rfl, rfl⟩))
    (fun os started H enc _ => none_lifted os started H enc)
#print axioms none_holds
end Go.Proofs.Ytbblkabnijhdoaa
