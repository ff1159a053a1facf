
/- Contracts of the document's Put, Of. -/
import Derived.WalkKit
import Derived.Lib.Hide
import Derived.WalkSpells
import Derived.WalkLawsBesides
import Derived.BigQuiet
import Derived.Shelf.Abstract
import Derived.Test.YtcffcblfmlclnaaGreatDoorRef11
import Derived.Test.YtcffcblfmlclnaaGreatDoorOwn
namespace Go.Proofs.YtcffcblfmlclnaaGreatDoor
open Go.RowKit Go.Zone Go.Shelf
attribute [local go_sem] Zone.zone Zone.stepZ Zone.fill Zone.lookFs Zone.goes Zone.goesUpon Zone.dropFs Zone.cell_gro Zone.frozen_gro Zone.size_gro Zone.lt_add Zone.drew_gro Zone.tape_gro Zone.keep_refl
theorem info_val : (Tryz.prog.info? 76).map (fun i => (i.zero, i.size, i.bytes)) = some (some (.agg #[.int .u8 0, .int .i64 0, .string ByteArray.empty]), 3, 32) := by kernel_rfl
theorem elt_val : Elt Tryz.prog 73 76 3 32 := by
  obtain ⟨i, hi, h1, h2, h3⟩ := info_parts info_val
  exact ⟨i, _, Tryz.underlying73, hi, h1, h2, h3, rfl, by decide, by decide⟩
theorem val_len (x : Val) : x.cells.length = 3 := rfl
theorem val_one (x : Val) : ∀ u ∈ x.cells, u.oneCell' = true := by simp [Val.cells, Value.oneCell']
theorem val_at (x : Val) {w : World} {g : Nat} (h0 : w.cell? ⟨g, 0, none⟩ = some (.int .u8 x.k)) (h1 : w.cell? ⟨g, 1, none⟩ = some (.int .i64 x.n)) (h2 : w.cell? ⟨g, 2, none⟩ = some (.string x.s)) : ∀ j u, x.cells[j]? = some u → w.cell? ⟨g, j, none⟩ = some u
  | 0, _, h => by cases h; exact h0
  | 1, _, h => by cases h; exact h1
  | 2, _, h => by cases h; exact h2

def eqC (k n k' n' : Int) (s s' : ByteArray) : Bool := k == k' && n == n' && s.toList == s'.toList
def eqV (x y : Val) : Bool := eqC x.k x.n y.k y.n x.s y.s
theorem held_val : Tryz.prog.stoodInHeld 76 = false := by kernel_rfl
theorem guard_val : Tryz.prog.eqGuardType Tryz.prog.depth 76 = false := by kernel_rfl
theorem run_eq_val (k n k' n' : Int) (s s' : ByteArray) (w : World) : Sem.run Tryz.prog (binOp .eql 76 (.agg #[.int .u8 k, .int .i64 n, .string s]) (.agg #[.int .u8 k', .int .i64 n', .string s'])) w = .ok (.bool (eqC k n k' n' s s')) w := by
  have h1 := held_val
  have h3 := guard_val
  go_simp
  unfold eqC
  by_cases a : k = k' <;> by_cases b : n = n' <;> by_cases c : s.toList = s'.toList <;> simp [a, b, c]
theorem run_ne_val (k n k' n' : Int) (s s' : ByteArray) (w : World) : Sem.run Tryz.prog (binOp .neq 76 (.agg #[.int .u8 k, .int .i64 n, .string s]) (.agg #[.int .u8 k', .int .i64 n', .string s'])) w = .ok (.bool (!eqC k n k' n' s s')) w := by
  have h1 := held_val
  have h3 := guard_val
  go_simp
  unfold eqC
  by_cases a : k = k' <;> by_cases b : n = n' <;> by_cases c : s.toList = s'.toList <;> simp [a, b, c]
theorem run_eqG_val (op : BinOp) (x y : Operand) (xs ys : Array Value) (w : World) : (eqGuard op 76 x y (.agg xs) (.agg ys)).run Tryz.prog w = .ok () w := run_eqGuard_agg w op 76 x y xs ys guard_val
attribute [local go_sem high] run_eq_val run_ne_val run_eqG_val
def stepPut (v : Val) (a : List Val × Bool) (x : Val) : List Val × Bool := if !a.2 && lessV v x then (a.1 ++ [v] ++ [x], true) else (a.1 ++ [x], a.2)
def putS (v : Val) (xs : List Val) : List Val × Bool := xs.foldl (stepPut v) ([], false)
theorem putS_succ (v : Val) (xs : List Val) (k : Nat) (h : k < xs.length) : putS v (xs.take (k + 1)) = stepPut v (putS v (xs.take k)) xs[k] := by
  unfold putS
  rw [List.take_succ_eq_append_getElem h, List.foldl_append]
  rfl
def putV (xs : List Val) (v : Val) : List Val := if xs.any (fun x => eqV x v) then xs else if (putS v xs).2 then (putS v xs).1 else (putS v xs).1 ++ [v]

/-- Where there are things, they lie in blocks from base on. -/
def Fresh (base : Nat) (A : Option Addr) (n : Nat) : Prop := ∀ g off, A = some ⟨g, off, none⟩ → 0 < n → base ≤ g
theorem fresh_own {α : Type} {w : World} {base b0 : Nat} {e : TypeId} {k : Nat} {enc : α → List Value} {A : Option Addr} {n m c : Nat} {xs : List α} (h : Zone.Own w b0 e k enc (.slice A n c) xs) (hb : base ≤ b0) : Fresh base A m := fun g off hA _ => by
  subst hA
  have := (h.lt g rfl).1
  omega
end Go.Proofs.YtcffcblfmlclnaaGreatDoor
