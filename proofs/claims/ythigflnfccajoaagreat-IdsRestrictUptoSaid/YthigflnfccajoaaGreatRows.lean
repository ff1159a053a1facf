/-
  NARROWER THAN 'FOR EVERY INPUT', by the rows' own cells (each row's printed sentence says how): IdsRestrict: loops · IdsRows: loops · IdsAnd: loops.
  DERIVED. THE GIVEN ROWS OF THIS SEAT. 3 by the template 'for every input the law returns true; each argument reads behind the call as it read before'; 0 by the template 'total and deterministic' (their statements: YthigflnfccajoaaGreatTotals.lean).
  GIVEN WITH THE SEED: the statements are not yours to turn. If you find one false, say at which input.
  Laid BY PROGRAM, IN A SANDBOX (cutbox-rows.mjs): the forced cells as the released guide's own fill.sh prints them over the translation c6aa00ace518f0be… (all of the seat's roots in one cut). By AI agents, Wed Nov 11 2026. No macro, syntax, notation, axiom, sorry.
-/
import Derived.Test.YthigflnfccajoaaGreatChecked
import GoSem.Claim
import GoSem.ClaimJoined
import GoSem.ClaimMapViews
import Derived.JoinedTies
import Derived.KernelRfl
namespace Go.Proofs.YthigflnfccajoaaGreat
/- THE CELL 'sum', in the pinned program and in every row, IS THE sha256 OF THE DUMP (.gsa) THAT YthigflnfccajoaaGreatProg.lean LOADS. Nothing in Lean hashes anything: it is a label: what it is worth is what the hold of that sum in a sandbox is worth. -/
noncomputable def Tryz.pinned : Pinned := { name := "ythigflnfccajoaagreat", sum := "c6aa00ace518f0be7b05defa3fc53a1ecbfd708806e275b6e3fd9207f27b48b0", checked := Tryz.checked }
namespace Rows
def none {H : Type} : Left H := { results := [], args := [] }

/-- 'isinglasslaw25.IdsRestrict': WHATEVER THE INPUT: true; the input reads as it did. -/
def idsRestrictSpec : ChangeSpec := { name := "idsRestrict", fn := fun _ => fun
  | [d1, d2] => { results := [.lit (.bool true)], args := [d1, d2] }
  | _ => none }
def idsRestrictRow : OpenClaim := { program := "ythigflnfccajoaagreat", sum := "c6aa00ace518f0be7b05defa3fc53a1ecbfd708806e275b6e3fd9207f27b48b0", func := "isinglass/isinglasslaw25.IdsRestrict", spec := "idsRestrict", unfollowed := true, recurses := true, loops := true, apart := false }
def IdsRestrictSaid : Prop := idsRestrictRow.holds Tryz.pinned (OpenSpec.ofChange idsRestrictSpec)

/-- ITS FALSE NEIGHBOUR: 'it returns false'. Refute it at one input. -/
def idsRestrictWrong : ChangeSpec := { name := "idsRestrict", fn := fun _ => fun
  | [d1, d2] => { results := [.lit (.bool false)], args := [d1, d2] }
  | _ => none }
def IdsRestrictWrongFalsely : Prop := idsRestrictRow.holds Tryz.pinned (OpenSpec.ofChange idsRestrictWrong)

/-- 'isinglasslaw25.IdsRows': WHATEVER THE INPUT: true; the input reads as it did. -/
def idsRowsSpec : ChangeSpec := { name := "idsRows", fn := fun _ => fun
  | [d1, d2, d3] => { results := [.lit (.bool true)], args := [d1, d2, d3] }
  | _ => none }
def idsRowsRow : OpenClaim := { program := "ythigflnfccajoaagreat", sum := "c6aa00ace518f0be7b05defa3fc53a1ecbfd708806e275b6e3fd9207f27b48b0", func := "isinglass/isinglasslaw25.IdsRows", spec := "idsRows", unfollowed := true, recurses := true, loops := true, apart := false }
def IdsRowsSaid : Prop := idsRowsRow.holds Tryz.pinned (OpenSpec.ofChange idsRowsSpec)

/-- ITS FALSE NEIGHBOUR: 'it returns false'. Refute it at one input. -/
def idsRowsWrong : ChangeSpec := { name := "idsRows", fn := fun _ => fun
  | [d1, d2, d3] => { results := [.lit (.bool false)], args := [d1, d2, d3] }
  | _ => none }
def IdsRowsWrongFalsely : Prop := idsRowsRow.holds Tryz.pinned (OpenSpec.ofChange idsRowsWrong)

/-- 'isinglasslaw25.IdsAnd': WHATEVER THE INPUT: true; the input reads as it did. -/
def idsAndSpec : ChangeSpec := { name := "idsAnd", fn := fun _ => fun
  | [d1, d2, d3] => { results := [.lit (.bool true)], args := [d1, d2, d3] }
  | _ => none }
def idsAndRow : OpenClaim := { program := "ythigflnfccajoaagreat", sum := "c6aa00ace518f0be7b05defa3fc53a1ecbfd708806e275b6e3fd9207f27b48b0", func := "isinglass/isinglasslaw25.IdsAnd", spec := "idsAnd", unfollowed := true, recurses := true, loops := true, apart := false }
def IdsAndSaid : Prop := idsAndRow.holds Tryz.pinned (OpenSpec.ofChange idsAndSpec)

/-- ITS FALSE NEIGHBOUR: 'it returns false'. Refute it at one input. -/
def idsAndWrong : ChangeSpec := { name := "idsAnd", fn := fun _ => fun
  | [d1, d2, d3] => { results := [.lit (.bool false)], args := [d1, d2, d3] }
  | _ => none }
def IdsAndWrongFalsely : Prop := idsAndRow.holds Tryz.pinned (OpenSpec.ofChange idsAndWrong)

/- THE SECOND FORM. 'bulk': how many values and letters a reading holds, each counted each time it is reached (what is shared counts as often as it is met; a slice's spare places count too). A statement '..UptoSaid' is the law's where the arguments, and the package variables that the reading takes, are together of bulk at most 1048576: NARROWER than '..Said'. Prove '..Said' where nothing that the law and all that it calls make is longer than what came in: it says more and counts as full. Else prove '..UptoSaid'. A law counts once. -/
mutual
def uptoBulk {H : Type} : DataW H → Nat
  | .lit (.string bytes) => bytes.length + 1
  | .lit _ => 1
  | .nil => 1
  | .ptr d => uptoBulk d + 1
  | .slice elems spare => uptoBulkAll elems + uptoBulkAll spare + 1
  | .agg parts => uptoBulkAll parts + 1
  | .iface _ d => uptoBulk d + 1
  | .map entries => uptoBulkEntries entries + 1
  | .held _ => 1
def uptoBulkAll {H : Type} : List (DataW H) → Nat
  | [] => 0
  | d :: r => uptoBulk d + uptoBulkAll r
def uptoBulkEntries {H : Type} : List (Lit × DataW H) → Nat
  | [] => 0
  | x :: r => uptoBulkEntry x + uptoBulkEntries r
def uptoBulkEntry {H : Type} : Lit × DataW H → Nat
  | (.string bytes, d) => bytes.length + uptoBulk d + 1
  | (_, d) => uptoBulk d + 1
 end
def uptoSmall : (H : Type) → List (DataW H) → Bool := fun _ ds => decide (uptoBulkAll ds ≤ 1048576)
def OpenSpec.upto (s : _root_.Go.ChangeSpec) : _root_.Go.OpenSpec := { _root_.Go.OpenSpec.ofChange s with cond := some uptoSmall }

/-- 'isinglasslaw25.IdsRestrict', WHERE WHAT IT READS IS OF BULK AT MOST 1048576: true; the input reads as it did. -/
def idsRestrictUptoRow : OpenClaim := { program := "ythigflnfccajoaagreat", sum := "c6aa00ace518f0be7b05defa3fc53a1ecbfd708806e275b6e3fd9207f27b48b0", func := "isinglass/isinglasslaw25.IdsRestrict", spec := "idsRestrict", unfollowed := true, recurses := true, loops := true, apart := false, narrowed := true }
def IdsRestrictUptoSaid : Prop := idsRestrictUptoRow.holds Tryz.pinned (OpenSpec.upto idsRestrictSpec)

/-- 'isinglasslaw25.IdsRows', WHERE WHAT IT READS IS OF BULK AT MOST 1048576: true; the input reads as it did. -/
def idsRowsUptoRow : OpenClaim := { program := "ythigflnfccajoaagreat", sum := "c6aa00ace518f0be7b05defa3fc53a1ecbfd708806e275b6e3fd9207f27b48b0", func := "isinglass/isinglasslaw25.IdsRows", spec := "idsRows", unfollowed := true, recurses := true, loops := true, apart := false, narrowed := true }
def IdsRowsUptoSaid : Prop := idsRowsUptoRow.holds Tryz.pinned (OpenSpec.upto idsRowsSpec)

/-- 'isinglasslaw25.IdsAnd', WHERE WHAT IT READS IS OF BULK AT MOST 1048576: true; the input reads as it did. -/
def idsAndUptoRow : OpenClaim := { program := "ythigflnfccajoaagreat", sum := "c6aa00ace518f0be7b05defa3fc53a1ecbfd708806e275b6e3fd9207f27b48b0", func := "isinglass/isinglasslaw25.IdsAnd", spec := "idsAnd", unfollowed := true, recurses := true, loops := true, apart := false, narrowed := true }
def IdsAndUptoSaid : Prop := idsAndUptoRow.holds Tryz.pinned (OpenSpec.upto idsAndSpec)

end Rows
end Go.Proofs.YthigflnfccajoaaGreat
