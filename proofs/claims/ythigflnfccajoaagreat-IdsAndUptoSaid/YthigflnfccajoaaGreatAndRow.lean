
/- IdsAnd: where what it reads is of the given bulk the law answers true, and what it is handed reads as before. -/
import Derived.Test.YthigflnfccajoaaGreatRows
import Derived.ProofKit
import Derived.Deep.CondSized
import Derived.Test.YthigflnfccajoaaGreatOpenN
import Derived.Test.YthigflnfccajoaaGreatAnd
import Derived.Test.YthigflnfccajoaaGreatUnd
namespace Go.Proofs.YthigflnfccajoaaGreat
open Go.ChangeShapes Go.WideShapes Go.ChangeAt Go.RowKit Go.Zone Go.ChangeMaps
theorem pars_and : Tryz.f5.params = #[24, 27, 27] := by kernel_rfl
set_option maxRecDepth 100000 in
theorem and_lifted (os : Os) (started : os.Started) (H : Type) (enc : TypeId × Value → H) (F : Stop.Interp) :
    ReturnsInHanded {} Tryz.checked os 5 .any ((Rows.OpenSpec.upto Rows.idsAndSpec).pre6 enc Tryz.prog Tryz.f5 Rows.idsAndUptoRow.domain false) (((Rows.OpenSpec.upto Rows.idsAndSpec).at F).post enc Tryz.prog Tryz.f5 false true false false) := by
  refine returnsInHanded_of_cond_sized (C := Tryz.checked) (s := Rows.OpenSpec.upto Rows.idsAndSpec) (k := Rows.uptoSmall) rfl own_ started (by kernel_rfl) Tryz.func5
    (OpenSpec.witness (enc := enc) (C := Tryz.checked) (s := Rows.OpenSpec.upto Rows.idsAndSpec) (k := Rows.uptoSmall) rfl false ⟨#[], #[.agg #[.slice none 0 0, .slice none 0 0, .slice none 0 0], .agg #[.int .u8 0, .slice none 0 0, .string ⟨#[]⟩, .int .u8 0, .slice none 0 0], .agg #[.int .u8 0, .slice none 0 0, .string ⟨#[]⟩, .int .u8 0, .slice none 0 0]], []⟩ 8 (by kernel_rfl) (by kernel_rfl) (by kernel_rfl)
      (x := ([.agg [.nil, .nil, .nil], .agg [.lit (.int .u8 0), .nil, .lit (.string []), .lit (.int .u8 0), .nil], .agg [.lit (.int .u8 0), .nil, .lit (.string []), .lit (.int .u8 0), .nil]], [], [])) (by kernel_rfl) rfl (by kernel_rfl)) ?_
  intro W base args ds gs before hval0 hW hcnd hk hz _
  have hval : ∀ (j : Nat) t v, Tryz.f5.params[j]? = some t → args[j]? = some v → Value.okWide Tryz.prog W .any base t v := hval0
  have hW' := hW
  obtain ⟨p, q, hA0, hV, rfl, hfz, hnd⟩ := hW
  have hA : DataW.TrodAll enc Tryz.prog W 0 (fun _ => true) true Tryz.f5.params.toList args.toList ds p := hA0
  rw [pars_and] at hA hval
  obtain ⟨v0, v1, v2, d0, d1, d2, p0, p1, p2, rfl, rfl, rfl, h0, h1, h2⟩ := trodAll_three hA
  obtain ⟨rfl, rfl⟩ := trodVars_none hV
  have hb : ∀ x ∈ p0 ++ p1 ++ p2 ++ [], x.block < W.heap.size := fun x hx => by simpa using hW'.lt x hx
  have hk3 : Rows.uptoBulkAll ([d0, d1, d2] ++ []) ≤ 1048576 := of_decide_eq_true hk
  simp only [List.cons_append, List.nil_append, Rows.uptoBulkAll] at hk3
  obtain ⟨A0, c0, xs0, A1, c1, xs1, A2, c2, xs2, rfl, s0, s1, s2, w0, w1, w2⟩ := open_dicts (hval 0 _ v0 rfl rfl) h0 (by omega)
  obtain ⟨f, rfl, hf, hfz2⟩ := open_filter (hval 1 _ v1 rfl rfl) h1 (by omega)
  obtain ⟨g, rfl, hg, hgz2⟩ := open_filter (hval 2 _ v2 rfl rfl) h2 (by omega)
  clear hA0 hval0 hk hk3
  simp only [List.append_nil] at hW'
  refine (and_any A0 c0 xs0 A1 c1 xs1 A2 c2 xs2 f g W s0 s1 s2 (fun x hx => (w0 x hx).s) (fun x hx => (w1 x hx).s) (fun x hx => (w2 x hx).s) hf hg (by omega) (by omega)).mono fun e W' ⟨he, hgr⟩ => ?_
  subst he
  exact ⟨_, rfl, post_of_below (pa := p0 ++ (p1 ++ p2)) (pv := []) hW' (fun _ _ _ => trodAll_mk1 (shut_bool u_bool _))
    (fun sp hsp => trodAll_mk3 (stays laid_ (by kernel_rfl) (of_decide_eq_true (by kernel_rfl)) h0 hgr (fun y hy => hb y (by simp [hy])) (fun y hy => hsp y (by simp [hy])))
      (stays laid_ (by kernel_rfl) (of_decide_eq_true (by kernel_rfl)) h1 hgr (fun y hy => hb y (by simp [hy])) (fun y hy => hsp y (by simp [hy])))
      (stays laid_ (by kernel_rfl) (of_decide_eq_true (by kernel_rfl)) h2 hgr (fun y hy => hb y (by simp [hy])) (fun y hy => hsp y (by simp [hy])))) (fun _ _ => rfl) (by simp)
    hgr (ok_one (by kernel_rfl) rfl (okWide_bool_mk u_bool _))⟩
theorem and_holds : Rows.IdsAndUptoSaid :=
  OpenClaim.holds_of_cond 5 Tryz.f5 rfl rfl rfl rfl rfl rfl rfl ⟨rfl, rfl, rfl, rfl, rfl⟩ rfl rfl rfl rfl rfl (by kernel_rfl) Tryz.func5 (by kernel_rfl)
    (of_decide_eq_true (by kernel_rfl)) (by unfold Func.isWrapper; first | (rw [if_pos (by decide +kernel)]; kernel_rfl) | (rw [if_neg (by decide +kernel)]; exact ⟨rfl, rfl⟩))
    (fun os started H enc _ F => and_lifted os started H enc F)
#print axioms and_holds
end Go.Proofs.YthigflnfccajoaaGreat
