
/- IdsRows: where what it reads is of the given bulk the law answers true, and what it is handed reads as before. -/
import Derived.Test.YthigflnfccajoaaGreatRows
import Derived.ProofKit
import Derived.Deep.CondSized
import Derived.Laws.IdiomArrays
import Derived.Test.YthigflnfccajoaaGreatOpenN
import Derived.Test.YthigflnfccajoaaGreatBws
import Derived.Test.YthigflnfccajoaaGreatUnd
namespace Go.Proofs.YthigflnfccajoaaGreat
open Go.ChangeShapes Go.WideShapes Go.ChangeAt Go.RowKit Go.Zone Go.ChangeMaps
theorem u_three : Tryz.prog.underlying 59 = some (.array 3 3) := by kernel_rfl
theorem c_int : Tryz.prog.cellsOf 3 = 1 := by kernel_rfl
theorem c_three : Tryz.prog.cellsOf 59 = 3 := by kernel_rfl
set_option maxRecDepth 100000 in
theorem open_three {H : Type} {enc : TypeId × Value → H} {w : World} {held : Bool} {b0 : Nat} {r : Reach} {v : Value} {d : DataW H} {ps : List MemPlace} (hv : Value.okWide Tryz.prog w r b0 59 v) (h : DataW.Trod enc Tryz.prog w 0 (fun _ => true) held 59 v d ps) :
    ∃ t0 t1 t2 : Int, v = .agg #[.int .i64 t0, .int .i64 t1, .int .i64 t2] := by
  have hc : ∃ cs, v = .agg cs ∧ cs.size = 3 := by
    simp only [Value.okWide, u_three] at hv
    obtain ⟨cs, h1, h2, _⟩ := hv
    exact ⟨cs, h1, by rw [h2, c_three]⟩
  obtain ⟨cs, rfl, hsz⟩ := hc
  obtain ⟨c0, c1, c2, rfl⟩ : ∃ a b c, cs = #[a, b, c] := by
    obtain ⟨l⟩ := cs
    match l, hsz with
    | [a, b, c], _ => exact ⟨a, b, c, rfl⟩
  obtain ⟨fuel, hf⟩ := h
  obtain ⟨y0, y1, y2, n, _, r0, r1, r2⟩ := trod_array3 u_three c_int hf
  obtain ⟨a0, e0, _, _⟩ := DataW.trod_int u_int r0
  obtain ⟨a1, e1, _, _⟩ := DataW.trod_int u_int r1
  obtain ⟨a2, e2, _, _⟩ := DataW.trod_int u_int r2
  cases e0; cases e1; cases e2
  exact ⟨a0, a1, a2, rfl⟩
theorem pars_rows : Tryz.f4.params = #[24, 27, 59] := by kernel_rfl
set_option maxRecDepth 100000 in
theorem rows_lifted (os : Os) (started : os.Started) (H : Type) (enc : TypeId × Value → H) (F : Stop.Interp) :
    ReturnsInHanded {} Tryz.checked os 4 .any ((Rows.OpenSpec.upto Rows.idsRowsSpec).pre6 enc Tryz.prog Tryz.f4 Rows.idsRowsUptoRow.domain false) (((Rows.OpenSpec.upto Rows.idsRowsSpec).at F).post enc Tryz.prog Tryz.f4 false true false false) := by
  refine returnsInHanded_of_cond_sized (C := Tryz.checked) (s := Rows.OpenSpec.upto Rows.idsRowsSpec) (k := Rows.uptoSmall) rfl own_ started (by kernel_rfl) Tryz.func4
    (OpenSpec.witness (enc := enc) (C := Tryz.checked) (s := Rows.OpenSpec.upto Rows.idsRowsSpec) (k := Rows.uptoSmall) rfl false ⟨#[], #[.agg #[.slice none 0 0, .slice none 0 0, .slice none 0 0], .agg #[.int .u8 0, .slice none 0 0, .string ⟨#[]⟩, .int .u8 0, .slice none 0 0], .agg #[.int .i64 0, .int .i64 0, .int .i64 0]], []⟩ 8 (by kernel_rfl) (by kernel_rfl) (by kernel_rfl)
      (x := ([.agg [.nil, .nil, .nil], .agg [.lit (.int .u8 0), .nil, .lit (.string []), .lit (.int .u8 0), .nil], .agg [.lit (.int .i64 0), .lit (.int .i64 0), .lit (.int .i64 0)]], [], [])) (by kernel_rfl) rfl (by kernel_rfl)) ?_
  intro W base args ds gs before hval0 hW hcnd hk hz _
  have hval : ∀ (j : Nat) t v, Tryz.f4.params[j]? = some t → args[j]? = some v → Value.okWide Tryz.prog W .any base t v := hval0
  have hW' := hW
  obtain ⟨p, q, hA0, hV, rfl, hfz, hnd⟩ := hW
  have hA : DataW.TrodAll enc Tryz.prog W 0 (fun _ => true) true Tryz.f4.params.toList args.toList ds p := hA0
  rw [pars_rows] at hA hval
  obtain ⟨v0, v1, v2, d0, d1, d2, p0, p1, p2, rfl, rfl, rfl, h0, h1, h2⟩ := trodAll_three hA
  obtain ⟨rfl, rfl⟩ := trodVars_none hV
  have hb : ∀ x ∈ p0 ++ p1 ++ p2 ++ [], x.block < W.heap.size := fun x hx => by simpa using hW'.lt x hx
  have hk3 : Rows.uptoBulkAll ([d0, d1, d2] ++ []) ≤ 1048576 := of_decide_eq_true hk
  simp only [List.cons_append, List.nil_append, Rows.uptoBulkAll] at hk3
  obtain ⟨A0, c0, xs0, A1, c1, xs1, A2, c2, xs2, rfl, s0, s1, s2, w0, w1, w2⟩ := open_dicts (hval 0 _ v0 rfl rfl) h0 (by omega)
  obtain ⟨f, rfl, hf, hfz2⟩ := open_filter (hval 1 _ v1 rfl rfl) h1 (by omega)
  obtain ⟨t0, t1, t2, rfl⟩ := open_three (hval 2 _ v2 rfl rfl) h2
  clear hA0 hval0 hk hk3
  simp only [List.append_nil] at hW'
  refine (rows_any A0 c0 xs0 A1 c1 xs1 A2 c2 xs2 f t0 t1 t2 W s0 s1 s2 (fun x hx => (w0 x hx).s) (fun x hx => (w1 x hx).s) (fun x hx => (w2 x hx).s) hf (by omega)).mono fun e W' ⟨he, hgr⟩ => ?_
  subst he
  exact ⟨_, rfl, post_of_below (pa := p0 ++ (p1 ++ p2)) (pv := []) hW' (fun _ _ _ => trodAll_mk1 (shut_bool u_bool _))
    (fun sp hsp => trodAll_mk3 (stays laid_ (by kernel_rfl) (of_decide_eq_true (by kernel_rfl)) h0 hgr (fun y hy => hb y (by simp [hy])) (fun y hy => hsp y (by simp [hy])))
      (stays laid_ (by kernel_rfl) (of_decide_eq_true (by kernel_rfl)) h1 hgr (fun y hy => hb y (by simp [hy])) (fun y hy => hsp y (by simp [hy])))
      (stays laid_ (by kernel_rfl) (of_decide_eq_true (by kernel_rfl)) h2 hgr (fun y hy => hb y (by simp [hy])) (fun y hy => hsp y (by simp [hy])))) (fun _ _ => rfl) (by simp)
    hgr (ok_one (by kernel_rfl) rfl (okWide_bool_mk u_bool _))⟩
theorem rows_holds : Rows.IdsRowsUptoSaid :=
  OpenClaim.holds_of_cond 4 Tryz.f4 rfl rfl rfl rfl rfl rfl rfl ⟨rfl, rfl, rfl, rfl, rfl⟩ rfl rfl rfl rfl rfl (by kernel_rfl) Tryz.func4 (by kernel_rfl)
    (of_decide_eq_true (by kernel_rfl)) (by unfold Func.isWrapper; first | (rw [if_pos (by decide +kernel)]; kernel_rfl) | (rw [if_neg (by decide +kernel)]; exact ⟨rfl, rfl⟩))
    (fun os started H enc _ F => rows_lifted os started H enc F)
#print axioms rows_holds
end Go.Proofs.YthigflnfccajoaaGreat
