
/- DictOrder: for every input the law answers true, and what it is handed reads as before. No condition. -/
import Derived.Test.YtbblkabnijhdoaaRows
import Derived.ProofKit
import Derived.Test.YtbblkabnijhdoaaOpen
import Derived.Test.YtbblkabnijhdoaaOrder
import Derived.Test.YtbblkabnijhdoaaUnd
namespace Go.Proofs.Ytbblkabnijhdoaa
open Go.ChangeShapes Go.WideShapes Go.ChangeAt Go.RowKit Go.Zone Go.ChangeMaps

theorem pars_order : Try.f5.params = #[5, 22] := by kernel_rfl
set_option maxRecDepth 100000 in
theorem order_lifted (os : Os) (started : os.Started) (H : Type) (enc : TypeId × Value → H) :
    ReturnsInHanded {} Try.checked os 5 .any (Rows.dictOrderSpec.pre6 enc Try.prog Try.f5 Rows.dictOrderRow.domain false) (Rows.dictOrderSpec.post enc Try.prog Try.f5 false true false false) := by
  refine returnsInHanded_of_change_sized (C := Try.checked) own_ started (by kernel_rfl) Try.func5
    (ChangeSpec.witness6 (enc := enc) (C := Try.checked) false ⟨#[], #[.int .u8 0, .slice none 0 0], []⟩ 8 (by kernel_rfl) (by kernel_rfl) (by kernel_rfl) (by kernel_rfl)) ?_
  intro W base args ds gs before hval0 hW hcnd hz _
  have hval : ∀ (j : Nat) t v, Try.f5.params[j]? = some t → args[j]? = some v → Value.okWide Try.prog W .any base t v := hval0
  have hW' := hW
  obtain ⟨p, q, hA0, hV, rfl, hfz, hnd⟩ := hW
  have hA : DataW.TrodAll enc Try.prog W 0 (fun _ => true) true Try.f5.params.toList args.toList ds p := hA0
  rw [pars_order] at hA hval
  obtain ⟨v0, v1, d0, d1, p0, p1, rfl, rfl, rfl, h0, h1⟩ := trodAll_two hA
  obtain ⟨rfl, rfl⟩ := trodVars_none hV
  have hb : ∀ x ∈ p0 ++ p1 ++ [], x.block < W.heap.size := fun x hx => by simpa using hW'.lt x hx
  obtain ⟨n0, rfl, rfl, rfl, w0⟩ := open_int u_u8 (hval 0 _ v0 rfl rfl) h0
  obtain ⟨A, c, xs, rfl, hS, _⟩ := open_vals (hval 1 _ v1 rfl rfl) h1 (fun el sp hd => sized_slice hz (j := 1) rfl (by rw [hd]; rfl) u_vals)
  clear hA0 hval0
  simp only [List.append_nil] at hW'
  refine (order_any n0 A c xs W hS).mono fun e W' ⟨he, hg⟩ => ?_
  subst he
  exact ⟨_, rfl, post_of_below (pa := p1) (pv := []) hW' (fun _ _ _ => trodAll_mk1 (shut_bool u_bool _))
    (fun sp hsp => trodAll_mk2 (shut_int u_u8 w0) (stays laid_ (by kernel_rfl) (of_decide_eq_true (by kernel_rfl)) h1 hg (fun y hy => hb y (by simp [hy])) (fun y hy => hsp y (by simp [hy])))) (fun _ _ => rfl) (by simp)
    hg (ok_one (by kernel_rfl) rfl (okWide_bool_mk u_bool _))⟩

theorem order_holds : Rows.DictOrderSaid :=
  OpenClaim.holds_of_wide 5 Try.f5 rfl rfl rfl rfl rfl rfl rfl ⟨rfl, rfl, rfl, rfl, rfl⟩ rfl rfl rfl rfl rfl (by kernel_rfl) Try.func5 (by kernel_rfl)
    (of_decide_eq_true (by kernel_rfl)) (by unfold Func.isWrapper; first | (rw [if_pos (by decide +kernel)]; kernel_rfl) | (rw [if_neg (by decide +kernel)]; exact ⟨rfl, rfl⟩))
    (fun os started H enc _ => order_lifted os started H enc)
#print axioms order_holds
end Go.Proofs.Ytbblkabnijhdoaa
