
/- DictDoes: for every input the law answers true, and what it is handed reads as before. No condition. -/
import Derived.Test.YtbblkabnijhdoaaRows
import Derived.ProofKit
import Derived.Test.YtbblkabnijhdoaaOpen
import Derived.Test.YtbblkabnijhdoaaDoes
import Derived.Test.YtbblkabnijhdoaaUnd
namespace Go.Proofs.Ytbblkabnijhdoaa
open Go.ChangeShapes Go.WideShapes Go.ChangeAt Go.RowKit Go.Zone Go.ChangeMaps

theorem pars_does : Try.f6.params = #[5, 22, 3] := by kernel_rfl
set_option maxRecDepth 100000 in
theorem does_lifted (os : Os) (started : os.Started) (H : Type) (enc : TypeId × Value → H) :
    ReturnsInHanded {} Try.checked os 6 .any (Rows.dictDoesSpec.pre6 enc Try.prog Try.f6 Rows.dictDoesRow.domain false) (Rows.dictDoesSpec.post enc Try.prog Try.f6 false true false false) := by
  refine returnsInHanded_of_change_sized (C := Try.checked) own_ started (by kernel_rfl) Try.func6
    (ChangeSpec.witness6 (enc := enc) (C := Try.checked) false ⟨#[], #[.int .u8 0, .slice none 0 0, .int .i64 0], []⟩ 8 (by kernel_rfl) (by kernel_rfl) (by kernel_rfl) (by kernel_rfl)) ?_
  intro W base args ds gs before hval0 hW hcnd hz _
  have hval : ∀ (j : Nat) t v, Try.f6.params[j]? = some t → args[j]? = some v → Value.okWide Try.prog W .any base t v := hval0
  have hW' := hW
  obtain ⟨p, q, hA0, hV, rfl, hfz, hnd⟩ := hW
  have hA : DataW.TrodAll enc Try.prog W 0 (fun _ => true) true Try.f6.params.toList args.toList ds p := hA0
  rw [pars_does] at hA hval
  obtain ⟨v0, v1, v2, d0, d1, d2, p0, p1, p2, rfl, rfl, rfl, h0, h1, h2⟩ := trodAll_three hA
  obtain ⟨rfl, rfl⟩ := trodVars_none hV
  have hb : ∀ x ∈ p0 ++ p1 ++ p2 ++ [], x.block < W.heap.size := fun x hx => by simpa using hW'.lt x hx
  obtain ⟨n0, rfl, rfl, rfl, w0⟩ := open_int u_u8 (hval 0 _ v0 rfl rfl) h0
  obtain ⟨n2, rfl, rfl, rfl, w2⟩ := open_int u_int (hval 2 _ v2 rfl rfl) h2
  obtain ⟨A, c, xs, rfl, hS, hx⟩ := open_vals (hval 1 _ v1 rfl rfl) h1 (fun el sp hd => sized_slice hz (j := 1) rfl (by rw [hd]; rfl) u_vals)
  clear hA0 hval0
  simp only [List.append_nil] at hW'
  refine (does_any n0 A c xs n2 W hS (fun y hy => (hx y hy).s) (by have h := w2; unfold Lit.wf at h; rw [Bool.and_eq_true, decide_eq_true_iff, decide_eq_true_iff] at h; exact h)).mono fun e W' ⟨he, hg⟩ => ?_
  subst he
  exact ⟨_, rfl, post_of_below (pa := p1) (pv := []) hW' (fun _ _ _ => trodAll_mk1 (shut_bool u_bool _))
    (fun sp hsp => by
      have ht := trodAll_mk3 (shut_int (enc := enc) (P := Try.prog) (w := W') (base := 0) (spare := sp) (held := true) u_u8 w0) (stays laid_ (by kernel_rfl) (of_decide_eq_true (by kernel_rfl)) h1 hg (fun y hy => hb y (by simp [hy])) (fun y hy => hsp y (by simp [hy]))) (shut_int u_int w2)
      simp only [List.nil_append, List.append_nil] at ht
      exact ht) (fun _ _ => rfl) (by simp)
    hg (ok_one (by kernel_rfl) rfl (okWide_bool_mk u_bool _))⟩

theorem does_holds : Rows.DictDoesSaid :=
  OpenClaim.holds_of_wide 6 Try.f6 rfl rfl rfl rfl rfl rfl rfl ⟨rfl, rfl, rfl, rfl, rfl⟩ rfl rfl rfl rfl rfl (by kernel_rfl) Try.func6 (by kernel_rfl)
    (of_decide_eq_true (by kernel_rfl)) (by unfold Func.isWrapper; first | (rw [if_pos (by decide +kernel)]; kernel_rfl) | (rw [if_neg (by decide +kernel)]; exact ⟨rfl, rfl⟩))
    (fun os started H enc _ => does_lifted os started H enc)
#print axioms does_holds
end Go.Proofs.Ytbblkabnijhdoaa
