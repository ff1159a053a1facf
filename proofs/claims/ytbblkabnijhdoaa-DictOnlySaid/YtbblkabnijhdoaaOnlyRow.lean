
/- DictOnly: for every input the law answers true, and what it is handed reads as before. No condition. -/
import Derived.Test.YtbblkabnijhdoaaRows
import Derived.ProofKit
import Derived.Test.YtbblkabnijhdoaaOpen
import Derived.Test.YtbblkabnijhdoaaOnly
import Derived.Test.YtbblkabnijhdoaaUnd
import Derived.Test.YtbblkabnijhdoaaOpenB
namespace Go.Proofs.Ytbblkabnijhdoaa
open Go.ChangeShapes Go.WideShapes Go.ChangeAt Go.RowKit Go.Zone Go.ChangeMaps

theorem pars_only : Try.f8.params = #[42, 5] := by kernel_rfl
set_option maxRecDepth 100000 in
theorem only_lifted (os : Os) (started : os.Started) (H : Type) (enc : TypeId × Value → H) :
    ReturnsInHanded {} Try.checked os 8 .any (Rows.dictOnlySpec.pre6 enc Try.prog Try.f8 Rows.dictOnlyRow.domain false) (Rows.dictOnlySpec.post enc Try.prog Try.f8 false true false false) := by
  refine returnsInHanded_of_change_sized (C := Try.checked) own_ started (by kernel_rfl) Try.func8
    (ChangeSpec.witness6 (enc := enc) (C := Try.checked) false ⟨#[], #[.slice none 0 0, .int .u8 0], []⟩ 8 (by kernel_rfl) (by kernel_rfl) (by kernel_rfl) (by kernel_rfl)) ?_
  intro W base args ds gs before hval0 hW hcnd hz _
  have hval : ∀ (j : Nat) t v, Try.f8.params[j]? = some t → args[j]? = some v → Value.okWide Try.prog W .any base t v := hval0
  have hW' := hW
  obtain ⟨p, q, hA0, hV, rfl, hfz, hnd⟩ := hW
  have hA : DataW.TrodAll enc Try.prog W 0 (fun _ => true) true Try.f8.params.toList args.toList ds p := hA0
  rw [pars_only] at hA hval
  obtain ⟨v0, v1, d0, d1, p0, p1, rfl, rfl, rfl, h0, h1⟩ := trodAll_two hA
  obtain ⟨rfl, rfl⟩ := trodVars_none hV
  have hb : ∀ x ∈ p0 ++ p1 ++ [], x.block < W.heap.size := fun x hx => by simpa using hW'.lt x hx
  obtain ⟨A, c, bs, rfl, hS⟩ := open_bytes (hval 0 _ v0 rfl rfl) h0 (fun el sp hd => sized_slice hz (j := 0) rfl (by rw [hd]; rfl) u_bytes)
  obtain ⟨n1, rfl, rfl, rfl, w1⟩ := open_int u_u8 (hval 1 _ v1 rfl rfl) h1
  obtain ⟨y, rfl⟩ := byte_of w1
  clear hA0 hval0
  simp only [List.append_nil] at hW'
  refine (only_any A c bs y W hS).mono fun e W' ⟨he, hg⟩ => ?_
  subst he
  exact ⟨_, rfl, post_of_below (pa := p0) (pv := []) hW' (fun _ _ _ => trodAll_mk1 (shut_bool u_bool _))
    (fun sp hsp => by
      have ht := trodAll_mk2 (stays laid_ (by kernel_rfl) (of_decide_eq_true (by kernel_rfl)) h0 hg (fun y hy => hb y (by simp [hy])) (fun y hy => hsp y (by simp [hy]))) (shut_int (enc := enc) (P := Try.prog) (w := W') (base := 0) (spare := sp) (held := true) u_u8 w1)
      rw [List.append_nil] at ht
      exact ht) (fun _ _ => rfl) (by simp)
    hg (ok_one (by kernel_rfl) rfl (okWide_bool_mk u_bool _))⟩

theorem only_holds : Rows.DictOnlySaid :=
  OpenClaim.holds_of_wide 8 Try.f8 rfl rfl rfl rfl rfl rfl rfl ⟨rfl, rfl, rfl, rfl, rfl⟩ rfl rfl rfl rfl rfl (by kernel_rfl) Try.func8 (by kernel_rfl)
    (of_decide_eq_true (by kernel_rfl)) (by unfold Func.isWrapper; first | (rw [if_pos (by decide +kernel)]; kernel_rfl) | (rw [if_neg (by decide +kernel)]; exact ⟨rfl, rfl⟩))
    (fun os started H enc _ => only_lifted os started H enc)
#print axioms only_holds
end Go.Proofs.Ytbblkabnijhdoaa
