/-
  No cell of these rows narrows 'for every input' (looked for: loops, veiled, ifaces, maps, wideKeys, modest, calm, conditions, laid).
  DERIVED. THE GIVEN ROWS OF THIS SEAT. 6 by the template 'for every input the law returns true; each argument reads behind the call as it read before'; 0 by the template 'total and deterministic' (their statements: YtbblkabnijhdoaaTotals.lean).
  GIVEN WITH THE SEED: the statements are not yours to turn. If you find one false, say at which input.
  Laid BY PROGRAM, IN A SANDBOX (cutbox-rows.mjs): the forced cells as the released guide's own fill.sh prints them over the translation b23502b9da67041b… (all of the seat's roots in one cut). By AI agents, Wed Nov 11 2026. No macro, syntax, notation, axiom, sorry.
-/
import Derived.Test.YtbblkabnijhdoaaChecked
import GoSem.Claim
import GoSem.ClaimJoined
import GoSem.ClaimMapViews
import Derived.JoinedTies
import Derived.KernelRfl
namespace Go.Proofs.Ytbblkabnijhdoaa
/- THE CELL 'sum', in the pinned program and in every row, IS THE sha256 OF THE DUMP (.gsa) THAT YtbblkabnijhdoaaProg.lean LOADS. Nothing in Lean hashes anything: it is a label: what it is worth is what the hold of that sum in a sandbox is worth. -/
noncomputable def Try.pinned : Pinned := { name := "ytbblkabnijhdoaa", sum := "b23502b9da67041b4dab218b77f253cb4c1c921d33bf12e8ea930d3f7b2bc99b", checked := Try.checked }
namespace Rows
def none {H : Type} : Left H := { results := [], args := [] }

/-- 'isinglasslaw11.DictAsks': WHATEVER THE INPUT: true; the input reads as it did. -/
def dictAsksSpec : ChangeSpec := { name := "dictAsks", fn := fun _ => fun
  | [d1, d2, d3, d4] => { results := [.lit (.bool true)], args := [d1, d2, d3, d4] }
  | _ => none }
def dictAsksRow : OpenClaim := { program := "ytbblkabnijhdoaa", sum := "b23502b9da67041b4dab218b77f253cb4c1c921d33bf12e8ea930d3f7b2bc99b", func := "isinglass/isinglasslaw11.DictAsks", spec := "dictAsks", unfollowed := true, recurses := true, apart := false }
def DictAsksSaid : Prop := dictAsksRow.holds Try.pinned (OpenSpec.ofChange dictAsksSpec)

/-- ITS FALSE NEIGHBOUR: 'it returns false'. Refute it at one input. -/
def dictAsksWrong : ChangeSpec := { name := "dictAsks", fn := fun _ => fun
  | [d1, d2, d3, d4] => { results := [.lit (.bool false)], args := [d1, d2, d3, d4] }
  | _ => none }
def DictAsksWrongFalsely : Prop := dictAsksRow.holds Try.pinned (OpenSpec.ofChange dictAsksWrong)

/-- 'isinglasslaw11.DictParts': WHATEVER THE INPUT: true; the input reads as it did. -/
def dictPartsSpec : ChangeSpec := { name := "dictParts", fn := fun _ => fun
  | [d1, d2, d3] => { results := [.lit (.bool true)], args := [d1, d2, d3] }
  | _ => none }
def dictPartsRow : OpenClaim := { program := "ytbblkabnijhdoaa", sum := "b23502b9da67041b4dab218b77f253cb4c1c921d33bf12e8ea930d3f7b2bc99b", func := "isinglass/isinglasslaw11.DictParts", spec := "dictParts", unfollowed := true, recurses := true, apart := false }
def DictPartsSaid : Prop := dictPartsRow.holds Try.pinned (OpenSpec.ofChange dictPartsSpec)

/-- ITS FALSE NEIGHBOUR: 'it returns false'. Refute it at one input. -/
def dictPartsWrong : ChangeSpec := { name := "dictParts", fn := fun _ => fun
  | [d1, d2, d3] => { results := [.lit (.bool false)], args := [d1, d2, d3] }
  | _ => none }
def DictPartsWrongFalsely : Prop := dictPartsRow.holds Try.pinned (OpenSpec.ofChange dictPartsWrong)

/-- 'isinglasslaw11.DictOrder': WHATEVER THE INPUT: true; the input reads as it did. -/
def dictOrderSpec : ChangeSpec := { name := "dictOrder", fn := fun _ => fun
  | [d1, d2] => { results := [.lit (.bool true)], args := [d1, d2] }
  | _ => none }
def dictOrderRow : OpenClaim := { program := "ytbblkabnijhdoaa", sum := "b23502b9da67041b4dab218b77f253cb4c1c921d33bf12e8ea930d3f7b2bc99b", func := "isinglass/isinglasslaw11.DictOrder", spec := "dictOrder", unfollowed := true, recurses := true, apart := false }
def DictOrderSaid : Prop := dictOrderRow.holds Try.pinned (OpenSpec.ofChange dictOrderSpec)

/-- ITS FALSE NEIGHBOUR: 'it returns false'. Refute it at one input. -/
def dictOrderWrong : ChangeSpec := { name := "dictOrder", fn := fun _ => fun
  | [d1, d2] => { results := [.lit (.bool false)], args := [d1, d2] }
  | _ => none }
def DictOrderWrongFalsely : Prop := dictOrderRow.holds Try.pinned (OpenSpec.ofChange dictOrderWrong)

/-- 'isinglasslaw11.DictDoes': WHATEVER THE INPUT: true; the input reads as it did. -/
def dictDoesSpec : ChangeSpec := { name := "dictDoes", fn := fun _ => fun
  | [d1, d2, d3] => { results := [.lit (.bool true)], args := [d1, d2, d3] }
  | _ => none }
def dictDoesRow : OpenClaim := { program := "ytbblkabnijhdoaa", sum := "b23502b9da67041b4dab218b77f253cb4c1c921d33bf12e8ea930d3f7b2bc99b", func := "isinglass/isinglasslaw11.DictDoes", spec := "dictDoes", unfollowed := true, recurses := true, apart := false }
def DictDoesSaid : Prop := dictDoesRow.holds Try.pinned (OpenSpec.ofChange dictDoesSpec)

/-- ITS FALSE NEIGHBOUR: 'it returns false'. Refute it at one input. -/
def dictDoesWrong : ChangeSpec := { name := "dictDoes", fn := fun _ => fun
  | [d1, d2, d3] => { results := [.lit (.bool false)], args := [d1, d2, d3] }
  | _ => none }
def DictDoesWrongFalsely : Prop := dictDoesRow.holds Try.pinned (OpenSpec.ofChange dictDoesWrong)

/-- 'isinglasslaw11.DictNone': WHATEVER THE INPUT: true; the input reads as it did. -/
def dictNoneSpec : ChangeSpec := { name := "dictNone", fn := fun _ => fun
  | [d1, d2, d3] => { results := [.lit (.bool true)], args := [d1, d2, d3] }
  | _ => none }
def dictNoneRow : OpenClaim := { program := "ytbblkabnijhdoaa", sum := "b23502b9da67041b4dab218b77f253cb4c1c921d33bf12e8ea930d3f7b2bc99b", func := "isinglass/isinglasslaw11.DictNone", spec := "dictNone", unfollowed := true, recurses := true, apart := false }
def DictNoneSaid : Prop := dictNoneRow.holds Try.pinned (OpenSpec.ofChange dictNoneSpec)

/-- ITS FALSE NEIGHBOUR: 'it returns false'. Refute it at one input. -/
def dictNoneWrong : ChangeSpec := { name := "dictNone", fn := fun _ => fun
  | [d1, d2, d3] => { results := [.lit (.bool false)], args := [d1, d2, d3] }
  | _ => none }
def DictNoneWrongFalsely : Prop := dictNoneRow.holds Try.pinned (OpenSpec.ofChange dictNoneWrong)

/-- 'isinglasslaw11.DictOnly': WHATEVER THE INPUT: true; the input reads as it did. -/
def dictOnlySpec : ChangeSpec := { name := "dictOnly", fn := fun _ => fun
  | [d1, d2] => { results := [.lit (.bool true)], args := [d1, d2] }
  | _ => none }
def dictOnlyRow : OpenClaim := { program := "ytbblkabnijhdoaa", sum := "b23502b9da67041b4dab218b77f253cb4c1c921d33bf12e8ea930d3f7b2bc99b", func := "isinglass/isinglasslaw11.DictOnly", spec := "dictOnly", unfollowed := true, recurses := true, apart := false }
def DictOnlySaid : Prop := dictOnlyRow.holds Try.pinned (OpenSpec.ofChange dictOnlySpec)

/-- ITS FALSE NEIGHBOUR: 'it returns false'. Refute it at one input. -/
def dictOnlyWrong : ChangeSpec := { name := "dictOnly", fn := fun _ => fun
  | [d1, d2] => { results := [.lit (.bool false)], args := [d1, d2] }
  | _ => none }
def DictOnlyWrongFalsely : Prop := dictOnlyRow.holds Try.pinned (OpenSpec.ofChange dictOnlyWrong)

/- THE SECOND FORM. 'bulk': how many values and letters a reading holds, each counted each time it is reached (what is shared counts as often as it is met; a slice's spare places count too). A statement '..UptoSaid' is the law's where the arguments, and the package variables that the reading takes, are together of bulk at most 1048576: NARROWER than '..Said'. Prove '..Said' where nothing that the law and all that it calls make is longer than what came in: it says more and counts as full. Else prove '..UptoSaid'. A law counts once. -/
mutual
def uptoBulk {H : Type} : DataW H → Nat
  | .lit (.string bytes) => bytes.length + 1
  | .lit _ => 1
  | .nil => 1
  | .ptr d => uptoBulk d + 1
  | .slice elems spare => uptoBulkAll elems + uptoBulkAll spare + 1
  | .agg parts => uptoBulkAll parts + 1
  | .iface _ d => uptoBulk d + 1
  | .map entries => uptoBulkEntries entries + 1
  | .held _ => 1
def uptoBulkAll {H : Type} : List (DataW H) → Nat
  | [] => 0
  | d :: r => uptoBulk d + uptoBulkAll r
def uptoBulkEntries {H : Type} : List (Lit × DataW H) → Nat
  | [] => 0
  | x :: r => uptoBulkEntry x + uptoBulkEntries r
def uptoBulkEntry {H : Type} : Lit × DataW H → Nat
  | (.string bytes, d) => bytes.length + uptoBulk d + 1
  | (_, d) => uptoBulk d + 1
 end
def uptoSmall : (H : Type) → List (DataW H) → Bool := fun _ ds => decide (uptoBulkAll ds ≤ 1048576)
def OpenSpec.upto (s : _root_.Go.ChangeSpec) : _root_.Go.OpenSpec := { _root_.Go.OpenSpec.ofChange s with cond := some uptoSmall }

/-- 'isinglasslaw11.DictAsks', WHERE WHAT IT READS IS OF BULK AT MOST 1048576: true; the input reads as it did. -/
def dictAsksUptoRow : OpenClaim := { program := "ytbblkabnijhdoaa", sum := "b23502b9da67041b4dab218b77f253cb4c1c921d33bf12e8ea930d3f7b2bc99b", func := "isinglass/isinglasslaw11.DictAsks", spec := "dictAsks", unfollowed := true, recurses := true, apart := false, narrowed := true }
def DictAsksUptoSaid : Prop := dictAsksUptoRow.holds Try.pinned (OpenSpec.upto dictAsksSpec)

/-- 'isinglasslaw11.DictParts', WHERE WHAT IT READS IS OF BULK AT MOST 1048576: true; the input reads as it did. -/
def dictPartsUptoRow : OpenClaim := { program := "ytbblkabnijhdoaa", sum := "b23502b9da67041b4dab218b77f253cb4c1c921d33bf12e8ea930d3f7b2bc99b", func := "isinglass/isinglasslaw11.DictParts", spec := "dictParts", unfollowed := true, recurses := true, apart := false, narrowed := true }
def DictPartsUptoSaid : Prop := dictPartsUptoRow.holds Try.pinned (OpenSpec.upto dictPartsSpec)

/-- 'isinglasslaw11.DictOrder', WHERE WHAT IT READS IS OF BULK AT MOST 1048576: true; the input reads as it did. -/
def dictOrderUptoRow : OpenClaim := { program := "ytbblkabnijhdoaa", sum := "b23502b9da67041b4dab218b77f253cb4c1c921d33bf12e8ea930d3f7b2bc99b", func := "isinglass/isinglasslaw11.DictOrder", spec := "dictOrder", unfollowed := true, recurses := true, apart := false, narrowed := true }
def DictOrderUptoSaid : Prop := dictOrderUptoRow.holds Try.pinned (OpenSpec.upto dictOrderSpec)

/-- 'isinglasslaw11.DictDoes', WHERE WHAT IT READS IS OF BULK AT MOST 1048576: true; the input reads as it did. -/
def dictDoesUptoRow : OpenClaim := { program := "ytbblkabnijhdoaa", sum := "b23502b9da67041b4dab218b77f253cb4c1c921d33bf12e8ea930d3f7b2bc99b", func := "isinglass/isinglasslaw11.DictDoes", spec := "dictDoes", unfollowed := true, recurses := true, apart := false, narrowed := true }
def DictDoesUptoSaid : Prop := dictDoesUptoRow.holds Try.pinned (OpenSpec.upto dictDoesSpec)

/-- 'isinglasslaw11.DictNone', WHERE WHAT IT READS IS OF BULK AT MOST 1048576: true; the input reads as it did. -/
def dictNoneUptoRow : OpenClaim := { program := "ytbblkabnijhdoaa", sum := "b23502b9da67041b4dab218b77f253cb4c1c921d33bf12e8ea930d3f7b2bc99b", func := "isinglass/isinglasslaw11.DictNone", spec := "dictNone", unfollowed := true, recurses := true, apart := false, narrowed := true }
def DictNoneUptoSaid : Prop := dictNoneUptoRow.holds Try.pinned (OpenSpec.upto dictNoneSpec)

/-- 'isinglasslaw11.DictOnly', WHERE WHAT IT READS IS OF BULK AT MOST 1048576: true; the input reads as it did. -/
def dictOnlyUptoRow : OpenClaim := { program := "ytbblkabnijhdoaa", sum := "b23502b9da67041b4dab218b77f253cb4c1c921d33bf12e8ea930d3f7b2bc99b", func := "isinglass/isinglasslaw11.DictOnly", spec := "dictOnly", unfollowed := true, recurses := true, apart := false, narrowed := true }
def DictOnlyUptoSaid : Prop := dictOnlyUptoRow.holds Try.pinned (OpenSpec.upto dictOnlySpec)

end Rows
end Go.Proofs.Ytbblkabnijhdoaa
