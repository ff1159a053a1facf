
/- The outputs' kinds: query.Kinds. -/
import Derived.WalkKit
import Derived.Lib.Hide
import Derived.WalkSpells
import Derived.WalkLawsBesides
import Derived.BigQuiet
import Derived.Shelf.Abstract
import Derived.Test.YthigflnfccajoaaGreatQval
import Derived.Test.YthigflnfccajoaaGreatOpen
namespace Go.Proofs.YthigflnfccajoaaGreat
open Go.RowKit Go.Zone Go.Shelf
attribute [local go_sem] Zone.zone Zone.stepZ Zone.fill Zone.lookFs Zone.goes Zone.goesUpon Zone.dropFs Zone.cell_gro Zone.frozen_gro Zone.size_gro Zone.lt_add Zone.drew_gro Zone.tape_gro Zone.keep_refl
attribute [local go_sem] Zone.lt_add2 Zone.lt_add3 Zone.lt_add4 Zone.lt_add5 Zone.lt_add6 Zone.lt_add7 Zone.lt_add8 Zone.lt_add9 Zone.lt_add10 Zone.lt_add11 Zone.lt_add12
structure Ky where
  out : Int
  desc : Bool
def Ky.cells (k : Ky) : List Value := [.int .i64 k.out, .bool k.desc]
/-- A question, as it lies in memory. -/
structure Qr where
  f : Nd
  bA : Option Addr
  bc : Nat
  by_ : List ByteArray
  aA : Option Addr
  ac : Nat
  aggs : List Ag
  h : Ts
  oA : Option Addr
  oc : Nat
  order : List Ky
  limit : Int
@[reducible] def Qr.val (q : Qr) : Value := .agg #[.int .u8 q.f.op, .slice q.f.A q.f.kids.length q.f.c, .string q.f.col, .int .u8 q.f.cmp, .slice q.f.B q.f.vals.length q.f.d, .slice q.bA q.by_.length q.bc, .slice q.aA q.aggs.length q.ac,
  .int .u8 q.h.op, .slice q.h.A q.h.kids.length q.h.c, .int .i64 q.h.out, .int .u8 q.h.cmp, .int .u8 q.h.v.k, .int .i64 q.h.v.n, .string q.h.v.s, .slice q.oA q.order.length q.oc, .int .i64 q.limit]
theorem info_k : (Tryz.prog.info? 5).map (fun i => (i.zero, i.size, i.bytes)) = some (some (.int .u8 0), 1, 1) := by kernel_rfl
theorem info_partsK {o : Option TypeInfo} {z : Value} {n m : Nat} (h : o.map (fun i => (i.zero, i.size, i.bytes)) = some (some z, n, m)) : ∃ i, o = some i ∧ i.zero = some z ∧ i.size = n ∧ i.bytes = m := by
  cases o with
  | none => cases h
  | some i => simp at h; exact ⟨i, rfl, h.1, h.2.1, h.2.2⟩
theorem elt_k : Elt Tryz.prog 119 5 1 1 := by
  obtain ⟨i, hi, h1, h2, h3⟩ := info_partsK info_k
  exact ⟨i, _, Tryz.underlying119, hi, h1, h2, h3, rfl, by decide, by decide⟩
theorem k_len (x : Int) : (byteK x).length = 1 := rfl
theorem k_one (x : Int) : ∀ u ∈ byteK x, u.oneCell' = true := by simp [byteK, Value.oneCell']
theorem k_at (x : Int) {w : World} {g : Nat} (h0 : w.cell? ⟨g, 0, none⟩ = some (.int .u8 x)) : ∀ j u, (byteK x)[j]? = some u → w.cell? ⟨g, j, none⟩ = some u
  | 0, u, hu => by cases hu; exact h0
abbrev OwnK (w : World) (base : Nat) (v : Value) (bs : List Int) : Prop := Own w base 5 1 byteK v bs
def kindB (cols : List Col) (s : ByteArray) : Int := if (findC cols s).2 then kindC (findC cols s).1.kind else 0
def kindsQ (cols : List Col) (bs : List ByteArray) (n : Nat) : List Int := bs.map (kindB cols) ++ List.replicate n 1
theorem kinds_take (cols : List Col) (bs : List ByteArray) (k : Nat) (h : k < bs.length) : (bs.take (k + 1)).map (kindB cols) = (bs.take k).map (kindB cols) ++ [kindB cols bs[k]] := by
  rw [List.take_succ_eq_append_getElem h, List.map_append]; rfl
theorem kinds_rep (l : List Int) (k : Nat) : l ++ List.replicate (k + 1) 1 = (l ++ List.replicate k 1) ++ [1] := by
  rw [List.append_assoc, List.replicate_succ']
end Go.Proofs.YthigflnfccajoaaGreat
