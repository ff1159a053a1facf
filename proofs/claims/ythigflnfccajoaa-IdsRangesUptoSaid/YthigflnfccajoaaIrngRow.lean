
/- IdsRanges: where what it reads is of the given bulk the law answers true, and what it is handed reads as before. -/
import Derived.Test.YthigflnfccajoaaRows
import Derived.ProofKit
import Derived.Deep.CondSized
import Derived.Test.YthigflnfccajoaaOpen
import Derived.Test.YthigflnfccajoaaIrng
import Derived.Test.YthigflnfccajoaaUnd
namespace Go.Proofs.Ythigflnfccajoaa
open Go.ChangeShapes Go.WideShapes Go.ChangeAt Go.RowKit Go.Zone Go.ChangeMaps
theorem u_i64 : Try.prog.underlying 2 = some (.int .i64) := by kernel_rfl
theorem bulk_pos {H : Type} (d : DataW H) : 1 ≤ Rows.uptoBulk d := by
  cases d with
  | lit l => cases l <;> simp [Rows.uptoBulk]
  | _ => simp [Rows.uptoBulk]
theorem bulk_all {H : Type} (k : Nat) : ∀ (l : List (DataW H)), (∀ d ∈ l, k ≤ Rows.uptoBulk d) → k * l.length ≤ Rows.uptoBulkAll l
  | [], _ => by simp [Rows.uptoBulkAll]
  | x :: r, h => by
    have h1 := bulk_all k r fun d hd => h d (by simp [hd])
    have h2 := h x (by simp)
    simp only [Rows.uptoBulkAll, List.length_cons, Nat.mul_add, Nat.mul_one]
    omega
section
variable {H : Type} {enc : TypeId × Value → H} {w : World} {held : Bool}
theorem len_vals {A : Option Addr} {n c : Nat} {d : DataW H} {ps : List MemPlace} (h : DataW.Trod enc Try.prog w 0 (fun _ => true) held 28 (.slice A n c) d ps) : 2 * n ≤ Rows.uptoBulk d := by
  obtain ⟨f0, f1, f2, hs, hone, t0, t1, t2⟩ := u_val
  obtain ⟨fuel, hf⟩ := h
  have hcs : (Value.slice A n c).cells.toList = [.slice A n c] := by simp [Value.cells]
  rcases open_slice_fields u_vals hs hone c_val hf with ⟨h0, _⟩ | ⟨a, len, cap, m, D, Pl, h0, hb, hl, hm, hmm, hx, hi⟩
  · simp only [hcs, List.cons.injEq, and_true, Value.slice.injEq] at h0
    omega
  · simp only [hcs, List.cons.injEq, and_true, Value.slice.injEq] at h0
    obtain ⟨_, rfl, _⟩ := h0
    simp only [Prod.mk.injEq] at hx
    rw [hx.1]
    have h1 := bulk_all 2 ((List.range n).map D) fun d hd => by
      obtain ⟨i, hi', rfl⟩ := List.mem_map.1 hd
      have hin := List.mem_range.1 hi'
      obtain ⟨ys, n', hD, _, hyl, _⟩ := hi i (by rw [hmm]; split <;> omega)
      rw [hD]
      have h2 := bulk_all 1 (ys.map (·.1)) fun d _ => bulk_pos d
      simp only [Rows.uptoBulk, List.length_map, Nat.one_mul] at h2 ⊢
      have h3 : 1 ≤ ys.length := by rw [hyl]; simp
      omega
    simp only [List.length_map, List.length_range] at h1
    simp only [Rows.uptoBulk]
    omega
end
theorem pars_ranges : Try.f4.params = #[28, 2] := by kernel_rfl
set_option maxRecDepth 100000 in
theorem ranges_lifted (os : Os) (started : os.Started) (H : Type) (enc : TypeId × Value → H) (F : Stop.Interp) :
    ReturnsInHanded {} Try.checked os 4 .any ((Rows.OpenSpec.upto Rows.idsRangesSpec).pre6 enc Try.prog Try.f4 Rows.idsRangesUptoRow.domain false) (((Rows.OpenSpec.upto Rows.idsRangesSpec).at F).post enc Try.prog Try.f4 false true false false) := by
  refine returnsInHanded_of_cond_sized (C := Try.checked) (s := Rows.OpenSpec.upto Rows.idsRangesSpec) (k := Rows.uptoSmall) rfl own_ started (by kernel_rfl) Try.func4
    (OpenSpec.witness (enc := enc) (C := Try.checked) (s := Rows.OpenSpec.upto Rows.idsRangesSpec) (k := Rows.uptoSmall) rfl false ⟨#[], #[.slice none 0 0, .int .i64 0], []⟩ 8 (by kernel_rfl) (by kernel_rfl) (by kernel_rfl)
      (x := ([.nil, .lit (.int .i64 0)], [], [])) (by kernel_rfl) rfl (by kernel_rfl)) ?_
  intro W base args ds gs before hval0 hW hcnd hk hz _
  have hval : ∀ (j : Nat) t v, Try.f4.params[j]? = some t → args[j]? = some v → Value.okWide Try.prog W .any base t v := hval0
  have hW' := hW
  obtain ⟨p, q, hA0, hV, rfl, hfz, hnd⟩ := hW
  have hA : DataW.TrodAll enc Try.prog W 0 (fun _ => true) true Try.f4.params.toList args.toList ds p := hA0
  rw [pars_ranges] at hA hval
  obtain ⟨v0, v1, d0, d1, p0, p1, rfl, rfl, rfl, h0, h1⟩ := trodAll_two hA
  obtain ⟨rfl, rfl⟩ := trodVars_none hV
  have hb : ∀ x ∈ p0 ++ p1 ++ [], x.block < W.heap.size := fun x hx => by simpa using hW'.lt x hx
  obtain ⟨A, c, xs, rfl, hS, _⟩ := open_vals (hval 0 _ v0 rfl rfl) h0 (fun el sp hd => sized_slice hz (j := 0) rfl (by rw [hd]; rfl) u_vals)
  obtain ⟨n1, rfl, rfl, rfl, w1⟩ := open_int u_i64 (hval 1 _ v1 rfl rfl) h1
  have hlen : xs.length ≤ 1000000 := by
    have h2 := len_vals h0
    have h3 : Rows.uptoBulkAll ([d0, .lit (.int .i64 n1)] ++ []) ≤ 1048576 := of_decide_eq_true hk
    simp only [List.cons_append, List.nil_append, Rows.uptoBulkAll] at h3
    omega
  clear hA0 hval0 hk
  simp only [List.append_nil] at hW'
  refine (ranges_any A c xs n1 W hS hlen).mono fun e W' ⟨he, hg⟩ => ?_
  subst he
  exact ⟨_, rfl, post_of_below (pa := p0) (pv := []) hW' (fun _ _ _ => trodAll_mk1 (shut_bool u_bool _))
    (fun sp hsp => by have h5 := trodAll_mk2 (stays laid_ (by kernel_rfl) (of_decide_eq_true (by kernel_rfl)) h0 hg (fun y hy => hb y (by simp [hy])) (fun y hy => hsp y (by simp [hy]))) (shut_int (w := W') (spare := sp) (held := true) (enc := enc) u_i64 w1); rw [List.append_nil] at h5; exact h5) (fun _ _ => rfl) (by simp)
    hg (ok_one (by kernel_rfl) rfl (okWide_bool_mk u_bool _))⟩

theorem ranges_holds : Rows.IdsRangesUptoSaid :=
  OpenClaim.holds_of_cond 4 Try.f4 rfl rfl rfl rfl rfl rfl rfl ⟨rfl, rfl, rfl, rfl, rfl⟩ rfl rfl rfl rfl rfl (by kernel_rfl) Try.func4 (by kernel_rfl)
    (of_decide_eq_true (by kernel_rfl)) (by unfold Func.isWrapper; first | (rw [if_pos (by decide +kernel)]; kernel_rfl) | (rw [if_neg (by decide +kernel)]; exact ⟨rfl, rfl⟩))
    (fun os started H enc _ F => ranges_lifted os started H enc F)
#print axioms ranges_holds
end Go.Proofs.Ythigflnfccajoaa
