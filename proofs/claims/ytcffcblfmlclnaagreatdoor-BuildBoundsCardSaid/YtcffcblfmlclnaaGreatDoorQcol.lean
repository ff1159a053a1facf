
/- Columns: what they are in memory; query.find, query.kind. -/
import Derived.WalkKit
import Derived.Lib.Hide
import Derived.WalkSpells
import Derived.WalkLawsBesides
import Derived.BigQuiet
import Derived.Shelf.Abstract
import Derived.Test.YtcffcblfmlclnaaGreatDoorFuncs
import Derived.Test.YtcffcblfmlclnaaGreatDoorZoneF
namespace Go.Proofs.YtcffcblfmlclnaaGreatDoor
open Go.RowKit Go.Zone Go.Shelf
attribute [local go_sem] Zone.zone Zone.stepZ Zone.fill Zone.lookFs Zone.goes Zone.goesUpon Zone.dropFs Zone.cell_gro Zone.frozen_gro Zone.size_gro Zone.lt_add Zone.drew_gro Zone.tape_gro Zone.keep_refl
attribute [local go_sem] Zone.lt_add2 Zone.lt_add3 Zone.lt_add4 Zone.lt_add5 Zone.lt_add6 Zone.lt_add7 Zone.lt_add8 Zone.lt_add9 Zone.lt_add10 Zone.lt_add11 Zone.lt_add12
/-- A column. -/
structure Col where
  name : ByteArray
  kind : Int
def Col.cells (c : Col) : List Value := [.string c.name, .int .u8 c.kind]
@[reducible] def Col.v (c : Col) : Value := .agg #[.string c.name, .int .u8 c.kind]
instance : Inhabited Col := ⟨⟨ByteArray.empty, 0⟩⟩
def isCol (n : ByteArray) (c : Col) : Bool := c.name.toList == n.toList
theorem sl_col {w : World} {c : Nat} {A : Option Addr} {xs : List Col} (h : Sl w 2 Col.cells A c xs) (i : Nat) (hi : i < xs.length) : ∃ b off, A = some ⟨b, off, none⟩ ∧ b < w.heap.size ∧ w.cell? ⟨b, off + i * 2, none⟩ = some (.string xs[i].name) ∧
    w.cell? ⟨b, off + i * 2 + 1, none⟩ = some (.int .u8 xs[i].kind) := by
  obtain ⟨b, off, hA, hc⟩ := h.at_ i hi
  have h0 := hc 0 _ rfl
  exact ⟨b, off, hA, World.block_lt_of_cell? w _ h0, h0, hc 1 _ rfl⟩

set_option maxHeartbeats 400000 in
theorem indexCol_any (A : Option Addr) (c : Nat) (xs : List Col) (g : Nat) (lb : Array Value) (p : Col → Bool) (w : World) (eg : ∀ args w, (callFunc g args).run Tryz.prog w = .ok (.enter g args) w)
    (h : Sl w 2 Col.cells A c xs) (hp : PredOk Tryz.prog g lb Col.v p w) :
    Calls Tryz.prog 115 #[.slice A xs.length c, .func (.func g) #[] lb] w fun e w' => e = .returned (.int .i64 (idxP p xs 0)) ∧ Keep w w' := by
  have hl := sl_len h
  have HP := Lib.hid hp; clear hp
  go_enter Tryz.func115, Tryz.ntmps115
  go_wp2
  go_loopw [5, 8] (fun _ i wr => ∃ k : Nat, k ≤ xs.length ∧ i = .int .i64 k ∧ Hid (Keep w wr) ∧ Hid (∀ j, (h : j < xs.length) → j < k → p xs[j] = false)) (fun _ i _ => xs.length - (intOf i).toNat)
  case atStart => exact ⟨0, Nat.zero_le _, rfl, Keep.refl _, fun j _ hj => absurd hj (Nat.not_lt_zero _)⟩
  case round =>
    obtain ⟨k, hk, rfl, HK, HR⟩ := hrel
    by_cases hlt : k < xs.length
    · have hcall := HP.out wr xs[k] HK.out
      obtain ⟨b, off, rfl, hb, h0, h1⟩ := sl_col (h.keep HK.out) k hlt
      clear h
      by_cases hq : p xs[k] = true
      · rw [hq] at hcall
        have HC := Lib.hid hcall
        have HQ := Lib.hid hq
        clear hcall hq
        go_wp2_with (go_at_fn g; refine HC.out.mono ?_; rintro e w' ⟨rfl, hk'⟩)
        go_ret
        exact ⟨ret_int (by rw [idxP_at p xs 0 k HR.out, List.drop_eq_getElem_cons hlt]; simp [idxP, HQ.out]), HK.out.trans hk'⟩
      · have hq' : p xs[k] = false := by simpa using hq
        rw [hq'] at hcall
        have HC := Lib.hid hcall
        have HQ := Lib.hid hq'
        clear hcall hq hq'
        go_wp2_with (go_at_fn g; refine HC.out.mono ?_; rintro e w' ⟨rfl, hk'⟩)
        go_roundw
        case rel => exact ⟨k + 1, by omega, by go_num, HK.out.trans hk', fun j hj hjk => by
          by_cases e : j = k
          · subst e; exact HQ.out
          · exact HR.out j hj (by omega)⟩
        case measure => simp [intOf]; omega
    · go_wp2
      go_ret
      exact ⟨ret_int (by rw [idxP_at p xs 0 xs.length fun j hj _ => HR.out j hj (by omega)]; simp [idxP]), HK.out⟩

theorem idxP_lt {α : Type} (p : α → Bool) : ∀ (xs : List α) (i : Nat), 0 ≤ idxP p xs i → ∃ k, ∃ h : k < xs.length, idxP p xs i = ((i + k : Nat) : Int) ∧ xs.find? p = some xs[k]
  | [], i, h => by simp [idxP] at h
  | x :: r, i, h => by
    unfold idxP at h ⊢
    by_cases hp : p x = true
    · exact ⟨0, by simp, by simp [hp], by simp [hp]⟩
    · simp only [hp, Bool.false_eq_true, if_false] at h ⊢
      obtain ⟨k, hk, h1, h2⟩ := idxP_lt p r (i + 1) h
      exact ⟨k + 1, by simp; omega, by rw [h1]; congr 1; omega, by simp [hp, h2]⟩
theorem idxP_neg {α : Type} (p : α → Bool) : ∀ (xs : List α) (i : Nat), ¬ 0 ≤ idxP p xs i → xs.find? p = none
  | [], i, h => rfl
  | x :: r, i, h => by
    unfold idxP at h
    by_cases hp : p x = true
    · simp only [hp, if_true] at h; omega
    · simp only [hp, Bool.false_eq_true, if_false] at h
      simp [hp, idxP_neg p r (i + 1) h]

/-- what find gives -/
def findC (cs : List Col) (n : ByteArray) : Col × Bool := match cs.find? (isCol n) with | some c => (c, true) | none => (⟨ByteArray.empty, 0⟩, false)
/-- of a column's values -/
def kindC (k : Int) : Int := if k = 2 then 2 else 1
end Go.Proofs.YtcffcblfmlclnaaGreatDoor
