
/- Contracts of the document's Put, Of. -/
import Derived.WalkKit
import Derived.Lib.Hide
import Derived.WalkSpells
import Derived.WalkLawsBesides
import Derived.BigQuiet
import Derived.Shelf.Abstract
import Derived.Test.YthigflnfccajoaaRef11
import Derived.Test.YthigflnfccajoaaOwn
namespace Go.Proofs.Ythigflnfccajoaa
open Go.RowKit Go.Zone Go.Shelf
attribute [local go_sem] Zone.zone Zone.stepZ Zone.fill Zone.lookFs Zone.goes Zone.goesUpon Zone.dropFs Zone.cell_gro Zone.frozen_gro Zone.size_gro Zone.lt_add Zone.drew_gro Zone.tape_gro Zone.keep_refl
theorem info_val : (Try.prog.info? 27).map (fun i => (i.zero, i.size, i.bytes)) = some (some (.agg #[.int .u8 0, .int .i64 0, .string ByteArray.empty]), 3, 32) := by kernel_rfl
theorem elt_val : Elt Try.prog 28 27 3 32 := by
  obtain ⟨i, hi, h1, h2, h3⟩ := info_parts info_val
  exact ⟨i, _, Try.underlying28, hi, h1, h2, h3, rfl, by decide, by decide⟩
theorem val_len (x : Val) : x.cells.length = 3 := rfl
theorem val_one (x : Val) : ∀ u ∈ x.cells, u.oneCell' = true := by simp [Val.cells, Value.oneCell']
theorem val_at (x : Val) {w : World} {g : Nat} (h0 : w.cell? ⟨g, 0, none⟩ = some (.int .u8 x.k)) (h1 : w.cell? ⟨g, 1, none⟩ = some (.int .i64 x.n)) (h2 : w.cell? ⟨g, 2, none⟩ = some (.string x.s)) : ∀ j u, x.cells[j]? = some u → w.cell? ⟨g, j, none⟩ = some u
  | 0, _, h => by cases h; exact h0
  | 1, _, h => by cases h; exact h1
  | 2, _, h => by cases h; exact h2

def eqC (k n k' n' : Int) (s s' : ByteArray) : Bool := k == k' && n == n' && s.toList == s'.toList
def eqV (x y : Val) : Bool := eqC x.k x.n y.k y.n x.s y.s
theorem held_val : Try.prog.stoodInHeld 27 = false := by kernel_rfl
theorem guard_val : Try.prog.eqGuardType Try.prog.depth 27 = false := by kernel_rfl
theorem run_eq_val (k n k' n' : Int) (s s' : ByteArray) (w : World) : Sem.run Try.prog (binOp .eql 27 (.agg #[.int .u8 k, .int .i64 n, .string s]) (.agg #[.int .u8 k', .int .i64 n', .string s'])) w = .ok (.bool (eqC k n k' n' s s')) w := by
  have h1 := held_val
  have h3 := guard_val
  go_simp
  unfold eqC
  by_cases a : k = k' <;> by_cases b : n = n' <;> by_cases c : s.toList = s'.toList <;> simp [a, b, c]
theorem run_ne_val (k n k' n' : Int) (s s' : ByteArray) (w : World) : Sem.run Try.prog (binOp .neq 27 (.agg #[.int .u8 k, .int .i64 n, .string s]) (.agg #[.int .u8 k', .int .i64 n', .string s'])) w = .ok (.bool (!eqC k n k' n' s s')) w := by
  have h1 := held_val
  have h3 := guard_val
  go_simp
  unfold eqC
  by_cases a : k = k' <;> by_cases b : n = n' <;> by_cases c : s.toList = s'.toList <;> simp [a, b, c]
theorem run_eqG_val (op : BinOp) (x y : Operand) (xs ys : Array Value) (w : World) : (eqGuard op 27 x y (.agg xs) (.agg ys)).run Try.prog w = .ok () w := run_eqGuard_agg w op 27 x y xs ys guard_val
attribute [local go_sem high] run_eq_val run_ne_val run_eqG_val
def stepPut (v : Val) (a : List Val × Bool) (x : Val) : List Val × Bool := if !a.2 && lessV v x then (a.1 ++ [v] ++ [x], true) else (a.1 ++ [x], a.2)
def putS (v : Val) (xs : List Val) : List Val × Bool := xs.foldl (stepPut v) ([], false)
theorem putS_succ (v : Val) (xs : List Val) (k : Nat) (h : k < xs.length) : putS v (xs.take (k + 1)) = stepPut v (putS v (xs.take k)) xs[k] := by
  unfold putS
  rw [List.take_succ_eq_append_getElem h, List.foldl_append]
  rfl
def putV (xs : List Val) (v : Val) : List Val := if xs.any (fun x => eqV x v) then xs else if (putS v xs).2 then (putS v xs).1 else (putS v xs).1 ++ [v]

end Go.Proofs.Ythigflnfccajoaa
