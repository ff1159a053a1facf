
/- Contracts of slices.IndexFunc, slices.ContainsFunc at values, and of the document's small functions on values. -/
import Derived.WalkKit
import Derived.Lib.Hide
import Derived.WalkSpells
import Derived.WalkLawsBesides
import Derived.BigQuiet
import Derived.Shelf.Abstract
import Derived.Test.YtcffcblfmlclnaaGreatDoorVal
import Derived.Test.YtcffcblfmlclnaaGreatDoorSl
namespace Go.Proofs.YtcffcblfmlclnaaGreatDoor
open Go.RowKit Go.Zone Go.Shelf
attribute [local go_sem] Zone.zone Zone.stepZ Zone.fill Zone.lookFs Zone.goes Zone.goesUpon Zone.dropFs Zone.cell_gro Zone.frozen_gro Zone.size_gro Zone.lt_add Zone.drew_gro Zone.tape_gro Zone.keep_refl
/-- What is asked of a predicate. -/
def PredOk {α : Type} (P : Program) (g : Nat) (lb : Array Value) (enc : α → Value) (p : α → Bool) (w : World) : Prop :=
  ∀ (W : World) (x : α), Keep w W → Calls P g (#[enc x] ++ lb) W fun e w' => e = .returned (.bool (p x)) ∧ Keep W w'
theorem sl_len {α : Type} {w : World} {k c : Nat} {enc : α → List Value} {A : Option Addr} {xs : List α} (h : Sl w k enc A c xs) : xs.length ≤ 140737488355328 := h.len
theorem sl_val {w : World} {c : Nat} {A : Option Addr} {xs : List Val} (h : Sl w 3 Val.cells A c xs) (i : Nat) (hi : i < xs.length) : ∃ b off, A = some ⟨b, off, none⟩ ∧ b < w.heap.size ∧ w.cell? ⟨b, off + i * 3, none⟩ = some (.int .u8 xs[i].k) ∧
    w.cell? ⟨b, off + i * 3 + 1, none⟩ = some (.int .i64 xs[i].n) ∧ w.cell? ⟨b, off + i * 3 + 2, none⟩ = some (.string xs[i].s) := by
  obtain ⟨b, off, hA, hc⟩ := h.at_ i hi
  have h0 := hc 0 _ rfl
  exact ⟨b, off, hA, World.block_lt_of_cell? w _ h0, h0, hc 1 _ rfl, hc 2 _ rfl⟩

def sumS (xs : List Val) : Int := xs.foldl (fun a x => wrap64 (a + x.s.size)) 0
theorem sumS_succ (xs : List Val) (k : Nat) (h : k < xs.length) : sumS (xs.take (k + 1)) = wrap64 (sumS (xs.take k) + xs[k].s.size) := by
  unfold sumS
  rw [List.take_succ_eq_append_getElem h, List.foldl_append]
  rfl
def greatV (xs : List Val) (m : Int) : Bool := decide (m < xs.length) || decide (200000 < sumS xs)
def idxP {α : Type} (p : α → Bool) : List α → Nat → Int
  | [], _ => -1
  | x :: r, i => if p x then (i : Int) else idxP p r (i + 1)
theorem idxP_at {α : Type} (p : α → Bool) : ∀ (xs : List α) (i k : Nat), (∀ j, (h : j < xs.length) → j < k → p xs[j] = false) → idxP p xs i = idxP p (xs.drop k) (i + k)
  | _, _, 0, _ => rfl
  | [], i, k + 1, _ => rfl
  | x :: r, i, k + 1, h => by
    have h0 := h 0 (by simp) (by omega)
    simp only [List.getElem_cons_zero] at h0
    simp only [idxP, h0, Bool.false_eq_true, if_false, List.drop_succ_cons]
    rw [idxP_at p r (i + 1) k (fun j hj hk => h (j + 1) (by simpa using hj) (by omega))]
    congr 1; omega
theorem idxP_any {α : Type} (p : α → Bool) : ∀ (xs : List α) (i : Nat), decide (0 ≤ idxP p xs i) = xs.any p
  | [], i => by simp [idxP]
  | x :: r, i => by
    unfold idxP
    by_cases h : p x = true
    · simp [h]
    · simp only [h, Bool.false_eq_true, if_false, List.any_cons, Bool.false_or]; exact idxP_any p r (i + 1)

set_option maxHeartbeats 400000 in
theorem indexFunc_any (A : Option Addr) (c : Nat) (xs : List Val) (g : Nat) (lb : Array Value) (p : Val → Bool) (w : World) (eg : ∀ args w, (callFunc g args).run Tryz.prog w = .ok (.enter g args) w)
    (h : Sl w 3 Val.cells A c xs) (hp : PredOk Tryz.prog g lb Val.v p w) :
    Calls Tryz.prog 123 #[.slice A xs.length c, .func (.func g) #[] lb] w fun e w' => e = .returned (.int .i64 (idxP p xs 0)) ∧ Keep w w' := by
  have hl := sl_len h
  have HP := Lib.hid hp; clear hp
  go_enter Tryz.func123, Tryz.ntmps123
  go_wp2
  go_loopw [5, 8] (fun _ i wr => ∃ k : Nat, k ≤ xs.length ∧ i = .int .i64 k ∧ Hid (Keep w wr) ∧ Hid (∀ j, (h : j < xs.length) → j < k → p xs[j] = false)) (fun _ i _ => xs.length - (intOf i).toNat)
  case atStart => exact ⟨0, Nat.zero_le _, rfl, Keep.refl _, fun j _ hj => absurd hj (Nat.not_lt_zero _)⟩
  case round =>
    obtain ⟨k, hk, rfl, HK, HR⟩ := hrel
    by_cases hlt : k < xs.length
    · have hcall := HP.out wr xs[k] HK.out
      obtain ⟨b, off, rfl, hb, h0, h1, h2⟩ := sl_val (h.keep HK.out) k hlt
      clear h
      by_cases hq : p xs[k] = true
      · rw [hq] at hcall
        have HC := Lib.hid hcall
        have HQ := Lib.hid hq
        clear hcall hq
        go_wp2_with (go_at_fn g; refine HC.out.mono ?_; rintro e w' ⟨rfl, hk'⟩)
        go_ret
        exact ⟨ret_int (by rw [idxP_at p xs 0 k HR.out, List.drop_eq_getElem_cons hlt]; simp [idxP, HQ.out]), HK.out.trans hk'⟩
      · have hq' : p xs[k] = false := by simpa using hq
        rw [hq'] at hcall
        have HC := Lib.hid hcall
        have HQ := Lib.hid hq'
        clear hcall hq hq'
        go_wp2_with (go_at_fn g; refine HC.out.mono ?_; rintro e w' ⟨rfl, hk'⟩)
        go_roundw
        case rel => exact ⟨k + 1, by omega, by go_num, HK.out.trans hk', fun j hj hjk => by
          by_cases e : j = k
          · subst e; exact HQ.out
          · exact HR.out j hj (by omega)⟩
        case measure => simp [intOf]; omega
    · go_wp2
      go_ret
      exact ⟨ret_int (by rw [idxP_at p xs 0 xs.length fun j hj _ => HR.out j hj (by omega)]; simp [idxP]), HK.out⟩

theorem containsFunc_any (A : Option Addr) (c : Nat) (xs : List Val) (g : Nat) (lb : Array Value) (p : Val → Bool) (w : World) (eg : ∀ args w, (callFunc g args).run Tryz.prog w = .ok (.enter g args) w)
    (h : Sl w 3 Val.cells A c xs) (hp : PredOk Tryz.prog g lb Val.v p w) :
    Calls Tryz.prog 81 #[.slice A xs.length c, .func (.func g) #[] lb] w fun e w' => e = .returned (.bool (xs.any p)) ∧ Keep w w' := by
  have HP := Lib.hid hp; clear hp
  have HH := Lib.hid h; clear h
  rw [← idxP_any p xs 0]
  go_enter Tryz.func81, Tryz.ntmps81
  go_wp2_with (go_at_call 123; refine (indexFunc_any A c xs g lb p _ eg HH.out HP.out).mono ?_; rintro e w' ⟨rfl, hk⟩; (first | obtain ⟨p, rfl⟩ := Zone.gro_of_gro _ _ hk | obtain ⟨p, rfl⟩ := Zone.gro_of_below _ hk); clear hk)
  go_ret
  exact ⟨rfl, (by repeat (first | exact Keep.refl _ | apply Keep.alloc | apply Keep.gro | apply Keep.drew | apply Keep.drewN))⟩

def noMay (x : Val) : Bool := !mayV x
theorem of1_any (x : Val) (w : World) : Calls Tryz.prog 82 #[x.v] w fun e w' => e = .returned (.bool (noMay x)) ∧ Keep w w' := by
  obtain ⟨k, n, s⟩ := x
  unfold noMay
  simp only [Val.v]
  go_enter Tryz.func82, Tryz.ntmps82
  go_wp2_with (go_at_call 69; refine (may_any ⟨k, n, s⟩ _).mono ?_; rintro e w' ⟨rfl, hk⟩; (first | obtain ⟨p, rfl⟩ := Zone.gro_of_gro _ _ hk | obtain ⟨p, rfl⟩ := Zone.gro_of_below _ hk); clear hk)
  go_ret
  exact ⟨rfl, (by repeat (first | exact Keep.refl _ | apply Keep.alloc | apply Keep.gro | apply Keep.drew | apply Keep.drewN))⟩
theorem of2_any (x : Val) (k : Int) (b : Nat) (w : World) (h : w.cell? ⟨b, 0, none⟩ = some (.int .u8 k)) (hb : b < w.heap.size) : Calls Tryz.prog 86 #[x.v, .pointer (some ⟨b, 0, none⟩)] w fun e w' => e = .returned (.bool (x.k != k)) ∧ Keep w w' := by
  obtain ⟨k', n, s⟩ := x
  simp only [Val.v]
  go_enter Tryz.func86, Tryz.ntmps86
  go_wp2
  go_ret
  exact ⟨rfl, (by repeat (first | exact Keep.refl _ | apply Keep.alloc | apply Keep.gro | apply Keep.drew | apply Keep.drewN))⟩
end Go.Proofs.YtcffcblfmlclnaaGreatDoor
