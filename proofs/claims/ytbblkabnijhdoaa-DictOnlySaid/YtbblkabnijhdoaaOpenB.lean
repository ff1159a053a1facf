
/- An argument opened: bytes. -/
import Derived.Test.YtbblkabnijhdoaaUnd
import Derived.Test.YtbblkabnijhdoaaBytes
namespace Go.Proofs.Ytbblkabnijhdoaa
open Go.RowKit Go.Zone Go.ChangeShapes Go.WideShapes Go.Deep Go.Joins Go.ChangeMaps
theorem u_bytes : Try.prog.underlying 42 = some (.slice 5) := by kernel_rfl
theorem c_u8 : Try.prog.cellsOf 5 = 1 := by kernel_rfl
theorem byte_of {n : Int} (h : (Lit.int .u8 n).wf = true) : ∃ b : UInt8, n = (b.toNat : Int) := by
  have h2 : 0 ≤ n ∧ n ≤ 255 := by
    have := h
    simp only [Lit.wf, IntKind.min, IntKind.max, IntKind.signed, IntKind.bits, Bool.and_eq_true, decide_eq_true_eq] at this
    simpa using this
  refine ⟨UInt8.ofNat n.toNat, ?_⟩
  rw [UInt8.toNat_ofNat']
  omega
section
variable {H : Type} {enc : TypeId × Value → H} {w : World} {held : Bool}
set_option maxRecDepth 100000 in
theorem open_bytes {b0 : Nat} {r : Reach} {v : Value} {d : DataW H} {ps : List MemPlace} (hv : Value.okWide Try.prog w r b0 42 v) (h : DataW.Trod enc Try.prog w 0 (fun _ => true) held 42 v d ps)
    (hz : ∀ el sp, d = .slice el sp → (el.length + sp.length) * Try.prog.bytesOf 5 ≤ reachBytes) :
    ∃ A c bs, v = .slice A bs.length c ∧ SlB w A c bs := by
  obtain ⟨fuel, hf⟩ := h
  have hcs : v.cells.toList = [v] := by
    simp only [Value.okWide, u_bytes] at hv
    cases v <;> simp_all [Cell.okWide, Cell.ok, u_bytes, Value.cells]
  rcases open_ints u_bytes u_u8 c_u8 hf with ⟨h0, _⟩ | ⟨a, len, cap, zs, h0, _, hl, hm, hzl, hx, hcell, hwz⟩
  · simp only [hcs, List.cons.injEq, and_true] at h0
    exact ⟨none, 0, [], h0, Sl.nil_ _ (by omega)⟩
  · simp only [hcs, List.cons.injEq, and_true] at h0
    simp only [if_true] at hzl
    simp only [Prod.mk.injEq] at hx
    have hz' := hz _ _ hx.1
    rw [show Try.prog.bytesOf 5 = 1 by kernel_rfl] at hz'
    simp only [lits, List.length_map, List.length_take, List.length_drop] at hz'
    have hrb := reachBytes_lt
    have hbl : ((zs.take len).map fun n => UInt8.ofNat n.toNat).length = len := by simp; omega
    refine ⟨some a, cap, (zs.take len).map fun n => UInt8.ofNat n.toNat, by rw [hbl]; exact h0, ⟨by rw [hbl]; exact hl, by unfold maxLen at hm; omega, by rw [hbl]; omega, fun i hi => ?_⟩⟩
    rw [hbl] at hi
    have c0 := hcell i (by omega)
    obtain ⟨ab, ao, spot⟩ := a
    have hspot : spot = none := by simpa [Addr.add] using World.cell?_spot (hcell 0 (by omega))
    subst hspot
    refine ⟨ab, ao, rfl, fun j u hu => ?_⟩
    match j, hu with
    | 0, hu =>
      cases hu
      rw [Addr.add_lit] at c0
      rw [Nat.mul_one, Nat.add_zero, c0]
      have hw : (Lit.int .u8 (zs.getD i 0)).wf = true := hwz _ (by simp [List.getD, show i < zs.length by omega])
      obtain ⟨b, hb⟩ := byte_of hw
      simp only [List.getElem_map, List.getElem_take]
      have hg : zs.getD i 0 = zs[i]'(by omega) := by simp [List.getD, show i < zs.length by omega]
      rw [hg] at hb ⊢
      rw [hb]
      simp
end
end Go.Proofs.Ytbblkabnijhdoaa
