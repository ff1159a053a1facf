
/- Contracts of the document's Put, Of. -/
import Derived.WalkKit
import Derived.Lib.Hide
import Derived.WalkSpells
import Derived.WalkLawsBesides
import Derived.BigQuiet
import Derived.Shelf.Abstract
import Derived.Test.YthigflnfccajoaaGreatRef11
import Derived.Test.YthigflnfccajoaaGreatOwn
namespace Go.Proofs.YthigflnfccajoaaGreat
open Go.RowKit Go.Zone Go.Shelf
attribute [local go_sem] Zone.zone Zone.stepZ Zone.fill Zone.lookFs Zone.goes Zone.goesUpon Zone.dropFs Zone.cell_gro Zone.frozen_gro Zone.size_gro Zone.lt_add Zone.drew_gro Zone.tape_gro Zone.keep_refl
theorem info_val : (Tryz.prog.info? 51).map (fun i => (i.zero, i.size, i.bytes)) = some (some (.agg #[.int .u8 0, .int .i64 0, .string ByteArray.empty]), 3, 32) := by kernel_rfl
theorem elt_val : Elt Tryz.prog 22 51 3 32 := by
  obtain ⟨i, hi, h1, h2, h3⟩ := info_parts info_val
  exact ⟨i, _, Tryz.underlying22, hi, h1, h2, h3, rfl, by decide, by decide⟩
theorem val_len (x : Val) : x.cells.length = 3 := rfl
theorem val_one (x : Val) : ∀ u ∈ x.cells, u.oneCell' = true := by simp [Val.cells, Value.oneCell']
theorem val_at (x : Val) {w : World} {g : Nat} (h0 : w.cell? ⟨g, 0, none⟩ = some (.int .u8 x.k)) (h1 : w.cell? ⟨g, 1, none⟩ = some (.int .i64 x.n)) (h2 : w.cell? ⟨g, 2, none⟩ = some (.string x.s)) : ∀ j u, x.cells[j]? = some u → w.cell? ⟨g, j, none⟩ = some u
  | 0, _, h => by cases h; exact h0
  | 1, _, h => by cases h; exact h1
  | 2, _, h => by cases h; exact h2

def eqC (k n k' n' : Int) (s s' : ByteArray) : Bool := k == k' && n == n' && s.toList == s'.toList
def eqV (x y : Val) : Bool := eqC x.k x.n y.k y.n x.s y.s
theorem held_val : Tryz.prog.stoodInHeld 51 = false := by kernel_rfl
theorem guard_val : Tryz.prog.eqGuardType Tryz.prog.depth 51 = false := by kernel_rfl
theorem run_eq_val (k n k' n' : Int) (s s' : ByteArray) (w : World) : Sem.run Tryz.prog (binOp .eql 51 (.agg #[.int .u8 k, .int .i64 n, .string s]) (.agg #[.int .u8 k', .int .i64 n', .string s'])) w = .ok (.bool (eqC k n k' n' s s')) w := by
  have h1 := held_val
  have h3 := guard_val
  go_simp
  unfold eqC
  by_cases a : k = k' <;> by_cases b : n = n' <;> by_cases c : s.toList = s'.toList <;> simp [a, b, c]
theorem run_ne_val (k n k' n' : Int) (s s' : ByteArray) (w : World) : Sem.run Tryz.prog (binOp .neq 51 (.agg #[.int .u8 k, .int .i64 n, .string s]) (.agg #[.int .u8 k', .int .i64 n', .string s'])) w = .ok (.bool (!eqC k n k' n' s s')) w := by
  have h1 := held_val
  have h3 := guard_val
  go_simp
  unfold eqC
  by_cases a : k = k' <;> by_cases b : n = n' <;> by_cases c : s.toList = s'.toList <;> simp [a, b, c]
theorem run_eqG_val (op : BinOp) (x y : Operand) (xs ys : Array Value) (w : World) : (eqGuard op 51 x y (.agg xs) (.agg ys)).run Tryz.prog w = .ok () w := run_eqGuard_agg w op 51 x y xs ys guard_val
attribute [local go_sem high] run_eq_val run_ne_val run_eqG_val
def stepPut (v : Val) (a : List Val × Bool) (x : Val) : List Val × Bool := if !a.2 && lessV v x then (a.1 ++ [v] ++ [x], true) else (a.1 ++ [x], a.2)
def putS (v : Val) (xs : List Val) : List Val × Bool := xs.foldl (stepPut v) ([], false)
theorem putS_succ (v : Val) (xs : List Val) (k : Nat) (h : k < xs.length) : putS v (xs.take (k + 1)) = stepPut v (putS v (xs.take k)) xs[k] := by
  unfold putS
  rw [List.take_succ_eq_append_getElem h, List.foldl_append]
  rfl
def putV (xs : List Val) (v : Val) : List Val := if xs.any (fun x => eqV x v) then xs else if (putS v xs).2 then (putS v xs).1 else (putS v xs).1 ++ [v]

/-- Where there are things, they lie in blocks from base on. -/
def Fresh (base : Nat) (A : Option Addr) (n : Nat) : Prop := ∀ g off, A = some ⟨g, off, none⟩ → 0 < n → base ≤ g
theorem fresh_own {α : Type} {w : World} {base b0 : Nat} {e : TypeId} {k : Nat} {enc : α → List Value} {A : Option Addr} {n m c : Nat} {xs : List α} (h : Zone.Own w b0 e k enc (.slice A n c) xs) (hb : base ≤ b0) : Fresh base A m := fun g off hA _ => by
  subst hA
  have := (h.lt g rfl).1
  omega
set_option maxRecDepth 100000 in
set_option maxHeartbeats 1000000 in
theorem put_new (base : Nat) (A : Option Addr) (c : Nat) (xs : List Val) (v : Val) (w : World) (hbs : base ≤ w.heap.size) (hfr : Fresh base A xs.length) (h : Sl w 3 Val.cells A c xs) (hs : ∀ x ∈ xs, x.s.size ≤ maxLen) (hv : v.s.size ≤ maxLen) (hl : xs.length ≤ 1000000) :
    Calls Tryz.prog 60 #[.slice A xs.length c, v.v] w fun e w' => ∃ A' c', e = .returned (.slice A' (putV xs v).length c') ∧ Sl w' 3 Val.cells A' c' (putV xs v) ∧ Keep w w' ∧ Fresh base A' (putV xs v).length := by
  have hl' := Lib.hid h.len
  have HS := Lib.hid hs; clear hs
  have HFR := Lib.hid hfr; clear hfr
  obtain ⟨k0, n0, s0⟩ := v
  simp only [Val.v]
  go_enter Tryz.func60, Tryz.ntmps60
  go_wp2
  go_loopw [5, 6, 7] (fun vo d i wr => ∃ (k : Nat) (o : List Val) (b : Bool), k ≤ xs.length ∧ i = .int .i64 k ∧ d = .bool b ∧ Hid (putS ⟨k0, n0, s0⟩ (xs.take k) = (o, b)) ∧ Hid (Own wr (w.heap.size + 1) 51 3 Val.cells vo o) ∧ Hid (Keep w wr) ∧
    Hid (∀ j, (h : j < xs.length) → j < k → eqV xs[j] ⟨k0, n0, s0⟩ = false) ∧ o.length ≤ 2 * k ∧
    w.heap.size < wr.heap.size ∧ wr.cell? ⟨w.heap.size, 0, none⟩ = some (.int .u8 k0) ∧ wr.cell? ⟨w.heap.size, 1, none⟩ = some (.int .i64 n0) ∧ wr.cell? ⟨w.heap.size, 2, none⟩ = some (.string s0)) (fun _ _ i _ => xs.length - (intOf i).toNat)
  case atStart => exact ⟨0, [], false, Nat.zero_le _, rfl, rfl, rfl, Own.nil_ _ _ _ _ _, (by repeat (first | exact Keep.refl _ | apply Keep.alloc | apply Keep.gro | apply Keep.drew | apply Keep.drewN)), fun j _ hj => absurd hj (Nat.not_lt_zero _), by simp, by simp, by simp [go_sem], by simp [go_sem], by simp [go_sem]⟩
  case round =>
    obtain ⟨k, o, b, hk, rfl, rfl, HF, HO, HK, HR, hol, hz, b0, b1, b2⟩ := hrel
    by_cases hlt : k < xs.length
    · obtain ⟨bx, off, rfl, hbx, c0, c1, c2⟩ := sl_val (h.keep HK.out) k hlt
      by_cases he : eqC xs[k].k xs[k].n k0 n0 xs[k].s s0 = true
      · go_wp2
        first | refine Zone.wp_region_all_gro (by kernel_rfl) (by kernel_rfl) ?_ | refine Zone.wp_region_all (by kernel_rfl) (by kernel_rfl) ?_
        repeat
          refine Zone.wpZ_step (fun K hK => ?_)
          go_simp
          first
          | (refine hK _ _ ?_; clear hK K)
          | (apply Exists.intro
             refine ⟨fun p => ?_, hK _ _ ?_⟩
             (fail)
             clear hK K)
        refine Zone.wpZ_nil ?_
        intro p
        simp only [Zone.fill]
        go_wp2
        go_ret
        have hp : putV xs ⟨k0, n0, s0⟩ = xs := by
          unfold putV
          rw [if_pos (List.any_eq_true.2 ⟨xs[k], List.getElem_mem _, he⟩)]
        exact ⟨some ⟨bx, off, none⟩, c, by rw [hp]; rfl, by rw [hp]; exact (h.keep HK.out).keep (below_gro _ _), HK.out.gro _, by rw [hp]; exact HFR.out⟩
      · have he' : eqC xs[k].k xs[k].n k0 n0 xs[k].s s0 = false := by simpa using he
        clear he
        have hsucc := putS_succ ⟨k0, n0, s0⟩ xs k hlt
        rw [HF.out] at hsucc
        have H2 := Lib.hid hsucc; clear hsucc
        go_wp2
        first | refine Zone.wp_region_all_gro (by kernel_rfl) (by kernel_rfl) ?_ | refine Zone.wp_region_all (by kernel_rfl) (by kernel_rfl) ?_
        repeat
          refine Zone.wpZ_step (fun K hK => ?_)
          go_simp
          first
          | (refine hK _ _ ?_; clear hK K)
          | (apply Exists.intro
             refine ⟨fun p => ?_, hK _ _ ?_⟩
             (fail)
             clear hK K)
        refine Zone.wpZ_nil ?_
        intro p
        simp only [Zone.fill]
        cases b
        · cases hless : lessV ⟨k0, n0, s0⟩ xs[k]
          · have hcall := fun W => less_any ⟨k0, n0, s0⟩ xs[k] W hv (HS.out _ (List.getElem_mem _))
            rw [hless] at hcall
            have HC := Lib.hid hcall; clear hcall
            go_wp2
            first | refine Zone.wp_region_all_gro (by kernel_rfl) (by kernel_rfl) ?_ | refine Zone.wp_region_all (by kernel_rfl) (by kernel_rfl) ?_
            repeat
              refine Zone.wpZ_step (fun K hK => ?_)
              go_simp
              first
              | (refine hK _ _ ?_; clear hK K)
              | (apply Exists.intro
                 refine ⟨fun p => ?_, hK _ _ ?_⟩
                 ((go_at_call 86; exact Zone.zc (HC.out _)))
                 clear hK K)
            refine Zone.wpZ_nil ?_
            intro q
            simp only [Zone.fill]
            go_wp2_with (at_builtin; refine Zone.hold ?_)
            refine Zone.unhold ?_
            have HO1 := (HO.out.keep (below_gro _ q)).keep (Keep.alloc (Keep.refl _) (.cells #[.int .u8 xs[k].k, .int .i64 xs[k].n, .string xs[k].s] 51))
            refine wpList_app elt_val val_len val_one rfl (.tmp 35) (.tmp 40) rfl (ys := [xs[k]]) HO1 rfl rfl (sl_one _ (by omega) (by omega) (val_at _ (by simp [go_sem]) (by simp [go_sem]) (by simp [go_sem]))) (by simp; omega) (by simp [size_gro]; omega) ?_
            intro v' w1 hown1 hg1 _
            have ⟨a1, a2, a3⟩ := HO1.after hg1 (HK.out.trans (by repeat (first | exact Keep.refl _ | apply Keep.alloc | apply Keep.gro | apply Keep.drew | apply Keep.drewN))) (Nat.le_succ _)
            go_wp2
            go_roundw
            case rel => exact ⟨k + 1, o ++ [xs[k]], false, by omega, by go_num, rfl, (by show _ = _; rw [H2.out]; simp [stepPut, hless]), hown1, a1, (fun j hj hjk => by
                by_cases e : j = k
                · subst e; exact he'
                · exact HR.out j hj (by omega)), by simp; omega, by simp [size_gro] at a2; omega, a3 _ _ (by simp) (by simp [go_sem, hz, b0]), a3 _ _ (by simp) (by simp [go_sem, hz, b1]), a3 _ _ (by simp) (by simp [go_sem, hz, b2])⟩
            case measure => simp [intOf]; omega
          · have hcall := fun W => less_any ⟨k0, n0, s0⟩ xs[k] W hv (HS.out _ (List.getElem_mem _))
            rw [hless] at hcall
            have HC := Lib.hid hcall; clear hcall
            go_wp2
            first | refine Zone.wp_region_all_gro (by kernel_rfl) (by kernel_rfl) ?_ | refine Zone.wp_region_all (by kernel_rfl) (by kernel_rfl) ?_
            repeat
              refine Zone.wpZ_step (fun K hK => ?_)
              go_simp
              first
              | (refine hK _ _ ?_; clear hK K)
              | (apply Exists.intro
                 refine ⟨fun p => ?_, hK _ _ ?_⟩
                 ((go_at_call 86; exact Zone.zc (HC.out _)))
                 clear hK K)
            refine Zone.wpZ_nil ?_
            intro q
            simp only [Zone.fill]
            go_wp2_with (at_builtin; refine Zone.hold ?_)
            refine Zone.unhold ?_
            have HO1 := (HO.out.keep (below_gro _ q)).keep (Keep.alloc (Keep.refl _) (.cells #[.int .u8 k0, .int .i64 n0, .string s0] 51))
            refine wpList_app elt_val val_len val_one rfl (.tmp 31) (.tmp 33) rfl (ys := [⟨k0, n0, s0⟩]) HO1 rfl rfl (sl_one _ (by omega) (by omega) (val_at _ (by simp [go_sem]) (by simp [go_sem]) (by simp [go_sem]))) (by simp; omega) (by simp [size_gro]; omega) ?_
            intro v1 w1 hown1 hg1 _
            have ⟨a1, a2, a3⟩ := HO1.after hg1 (HK.out.trans (by repeat (first | exact Keep.refl _ | apply Keep.alloc | apply Keep.gro | apply Keep.drew | apply Keep.drewN))) (Nat.le_succ _)
            have hz1 : w.heap.size < w1.heap.size := by simp [size_gro] at a2; omega
            have d0 := a3 ⟨w.heap.size, 0, none⟩ (.int .u8 k0) (by simp) (by simp [go_sem, hz, b0])
            have d1 := a3 ⟨w.heap.size, 1, none⟩ (.int .i64 n0) (by simp) (by simp [go_sem, hz, b1])
            have d2 := a3 ⟨w.heap.size, 2, none⟩ (.string s0) (by simp) (by simp [go_sem, hz, b2])
            clear b0 b1 b2 c0 c1 c2 a3
            obtain ⟨bx', off', hA', hbx', c0, c1, c2⟩ := sl_val (h.keep a1) k hlt
            cases hA'
            clear HO HO1
            have HO := Lib.hid hown1; clear hown1
            go_wp2_with (at_builtin; refine Zone.hold ?_)
            refine Zone.unhold ?_
            have HO1 := HO.out.keep (Keep.alloc (Keep.refl _) (.cells #[.int .u8 xs[k].k, .int .i64 xs[k].n, .string xs[k].s] 51))
            refine wpList_app elt_val val_len val_one rfl (.tmp 35) (.tmp 40) rfl (ys := [xs[k]]) HO1 rfl rfl (sl_one _ (by omega) (by omega) (val_at _ (by simp [go_sem]) (by simp [go_sem]) (by simp [go_sem]))) (by simp; omega) (by simp; omega) ?_
            intro v2 w2 hown2 hg2 _
            have ⟨e1, e2, e3⟩ := HO1.after hg2 (a1.trans (by repeat (first | exact Keep.refl _ | apply Keep.alloc | apply Keep.gro | apply Keep.drew | apply Keep.drewN))) (Nat.le_succ _)
            go_wp2
            go_roundw
            case rel => exact ⟨k + 1, o ++ [(⟨k0, n0, s0⟩ : Val)] ++ [xs[k]], true, by omega, by go_num, rfl, (by show _ = _; rw [H2.out]; simp [stepPut, hless]), hown2, e1, (fun j hj hjk => by
                by_cases e : j = k
                · subst e; exact he'
                · exact HR.out j hj (by omega)), by simp; omega, by simp at e2; omega, e3 _ _ (by simp) (by simp [go_sem, hz1, d0]), e3 _ _ (by simp) (by simp [go_sem, hz1, d1]), e3 _ _ (by simp) (by simp [go_sem, hz1, d2])⟩
            case measure => simp [intOf]; omega
        · go_wp2
          first | refine Zone.wp_region_all_gro (by kernel_rfl) (by kernel_rfl) ?_ | refine Zone.wp_region_all (by kernel_rfl) (by kernel_rfl) ?_
          repeat
            refine Zone.wpZ_step (fun K hK => ?_)
            go_simp
            first
            | (refine hK _ _ ?_; clear hK K)
            | (apply Exists.intro
               refine ⟨fun p => ?_, hK _ _ ?_⟩
               (fail)
               clear hK K)
          refine Zone.wpZ_nil ?_
          intro q
          simp only [Zone.fill]
          go_wp2_with (at_builtin; refine Zone.hold ?_)
          refine Zone.unhold ?_
          have HO1 := (HO.out.keep (below_gro _ q)).keep (Keep.alloc (Keep.refl _) (.cells #[.int .u8 xs[k].k, .int .i64 xs[k].n, .string xs[k].s] 51))
          refine wpList_app elt_val val_len val_one rfl (.tmp 35) (.tmp 40) rfl (ys := [xs[k]]) HO1 rfl rfl (sl_one _ (by omega) (by omega) (val_at _ (by simp [go_sem]) (by simp [go_sem]) (by simp [go_sem]))) (by simp; omega) (by simp [size_gro]; omega) ?_
          intro v' w1 hown1 hg1 _
          have ⟨a1, a2, a3⟩ := HO1.after hg1 (HK.out.trans (by repeat (first | exact Keep.refl _ | apply Keep.alloc | apply Keep.gro | apply Keep.drew | apply Keep.drewN))) (Nat.le_succ _)
          go_wp2
          go_roundw
          case rel => exact ⟨k + 1, o ++ [xs[k]], true, by omega, by go_num, rfl, (by show _ = _; rw [H2.out]; simp [stepPut]), hown1, a1, (fun j hj hjk => by
              by_cases e : j = k
              · subst e; exact he'
              · exact HR.out j hj (by omega)), by simp; omega, by simp [size_gro] at a2; omega, a3 _ _ (by simp) (by simp [go_sem, hz, b0]), a3 _ _ (by simp) (by simp [go_sem, hz, b1]), a3 _ _ (by simp) (by simp [go_sem, hz, b2])⟩
          case measure => simp [intOf]; omega
    · have hkl : k = xs.length := by omega
      have HF' : Hid (putS ⟨k0, n0, s0⟩ xs = (o, b)) := by
        have := HF.out
        rw [hkl, List.take_length] at this
        exact this
      have HN : Hid (xs.any (fun x => eqV x ⟨k0, n0, s0⟩) = false) := by
        show _ = _
        rw [List.any_eq_false]
        intro x hx
        obtain ⟨j, hj, rfl⟩ := List.getElem_of_mem hx
        simp [HR.out j hj (by omega)]
      clear HF hkl
      cases b
      · go_wp2_with (at_builtin; refine Zone.hold ?_)
        refine Zone.unhold ?_
        have HO1 := HO.out.keep (Keep.alloc (Keep.refl _) (.cells #[.int .u8 k0, .int .i64 n0, .string s0] 51))
        refine wpList_app elt_val val_len val_one rfl (.tmp 44) (.tmp 46) rfl (ys := [⟨k0, n0, s0⟩]) HO1 rfl rfl (sl_one _ (by omega) (by omega) (val_at _ (by simp [go_sem]) (by simp [go_sem]) (by simp [go_sem]))) (by simp; omega) (by simp; omega) ?_
        intro v' w1 hown1 hg1 _
        have ⟨a1, a2, a3⟩ := HO1.after hg1 (HK.out.trans (by repeat (first | exact Keep.refl _ | apply Keep.alloc | apply Keep.gro | apply Keep.drew | apply Keep.drewN))) (Nat.le_succ _)
        go_wp2
        go_ret
        obtain ⟨A', c', hv', hsl⟩ := hown1.sl val_len (by simp; omega)
        have hp : putV xs ⟨k0, n0, s0⟩ = o ++ [⟨k0, n0, s0⟩] := by
          unfold putV
          rw [HN.out, HF'.out]
          simp
        exact ⟨A', c', by rw [hp, ← hv']; rfl, by rw [hp]; exact hsl, a1, fresh_own (hv' ▸ hown1) (by omega)⟩
      · go_wp2
        go_ret
        obtain ⟨A', c', hv', hsl⟩ := HO.out.sl val_len (by omega)
        have hp : putV xs ⟨k0, n0, s0⟩ = o := by
          unfold putV
          rw [HN.out, HF'.out]
          simp
        exact ⟨A', c', by rw [hp, ← hv']; rfl, by rw [hp]; exact hsl, HK.out, fresh_own (hv' ▸ HO.out) (by omega)⟩
theorem put_any (A : Option Addr) (c : Nat) (xs : List Val) (v : Val) (w : World) (h : Sl w 3 Val.cells A c xs) (hs : ∀ x ∈ xs, x.s.size ≤ maxLen) (hv : v.s.size ≤ maxLen) (hl : xs.length ≤ 1000000) :
    Calls Tryz.prog 60 #[.slice A xs.length c, v.v] w fun e w' => ∃ A' c', e = .returned (.slice A' (putV xs v).length c') ∧ Sl w' 3 Val.cells A' c' (putV xs v) ∧ Keep w w' := by
  refine (put_new 0 A c xs v w (Nat.zero_le _) (fun _ _ _ _ => Nat.zero_le _) h hs hv hl).mono ?_
  rintro e w' ⟨A', c', he, h1, h2, _⟩
  exact ⟨A', c', he, h1, h2⟩
end Go.Proofs.YthigflnfccajoaaGreat
