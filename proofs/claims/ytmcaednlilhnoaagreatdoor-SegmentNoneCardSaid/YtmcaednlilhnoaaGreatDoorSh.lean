
/- segment: next. -/
import Derived.WalkKit
import Derived.Lib.Hide
import Derived.WalkSpells
import Derived.WalkLawsBesides
import Derived.BigQuiet
import Derived.Shelf.Abstract
import Derived.Test.YtmcaednlilhnoaaGreatDoorSg
import Derived.Test.YtmcaednlilhnoaaGreatDoorSk
import Derived.Test.YtmcaednlilhnoaaGreatDoorRd
namespace Go.Proofs.YtmcaednlilhnoaaGreatDoor
open Go.RowKit Go.Zone Go.Shelf
attribute [local go_sem] Zone.zone Zone.stepZ Zone.fill Zone.lookFs Zone.goes Zone.goesUpon Zone.dropFs Zone.cell_gro Zone.frozen_gro Zone.size_gro Zone.lt_add Zone.drew_gro Zone.tape_gro Zone.keep_refl
attribute [local go_sem] Zone.lt_add2 Zone.lt_add3 Zone.lt_add4 Zone.lt_add5 Zone.lt_add6 Zone.lt_add7 Zone.lt_add8 Zone.lt_add9 Zone.lt_add10 Zone.lt_add11 Zone.lt_add12
theorem row_ne_cell {w : World} {g : Nat} {T : TypeId} {vs : List Value} (h : Row w g T vs) {b j : Nat} {u : Value} (hc : w.cell? ⟨b, j, none⟩ = some u) (hu : u ∉ vs) : b ≠ g := fun e => by
  subst e
  unfold Row at h
  simp [World.cell?, h] at hc
  exact hu (List.mem_of_getElem? hc)
/-- the next section's place -/
theorem sec_tail {w : World} {b off c : Nat} {x : Sec} {L : List Sec} (h : Sl w 2 Sec.cells (some ⟨b, off, none⟩) c (x :: L)) : Sl w 2 Sec.cells (if c = 1 then some ⟨b, off, none⟩ else some ⟨b, off + 2, none⟩) (c - 1) L := by
  have hc := h.cap
  have hb := h.big
  have hl := h.len
  simp only [List.length_cons] at hc hl
  refine ⟨by omega, by omega, by omega, fun i hi => ?_⟩
  rw [if_neg (by omega)]
  obtain ⟨b', off', hA, hcc⟩ := h.at_ (i + 1) (by simp; omega)
  cases hA
  refine ⟨b, off + 2, rfl, fun j u hu => ?_⟩
  have := hcc j u (by simpa using hu)
  rw [show off + 2 + i * 2 + j = off + (i + 1) * 2 + j by omega]
  exact this
/-- the opener: its segment, the bytes, the sections that are left -/
def opV (s : Nat) (bv : Value) (A : Option Addr) (n c : Nat) : List Value := [.pointer (some ⟨s, 0, none⟩), bv, .slice A n c]
/-- where the sections behind the first one lie -/
def tailA (A : Option Addr) (c : Nat) : Option Addr := match A with
  | some ⟨b, off, none⟩ => if c = 1 then some ⟨b, off, none⟩ else some ⟨b, off + 2, none⟩
  | x => x
theorem tailA_some (b off c : Nat) : tailA (some ⟨b, off, none⟩) c = if c = 1 then some ⟨b, off, none⟩ else some ⟨b, off + 2, none⟩ := rfl
theorem tail_sl {w : World} {A : Option Addr} {c : Nat} {x : Sec} {L : List Sec} (h : Sl w 2 Sec.cells A c (x :: L)) : Sl w 2 Sec.cells (tailA A c) (c - 1) L := by
  obtain ⟨b, off, rfl, _⟩ := h.at_ 0 (by simp)
  exact sec_tail h
set_option maxRecDepth 100000 in
theorem next_any (o s : Nat) (bv : Value) (A : Option Addr) (c : Nat) (x : Sec) (L : List Sec) (w : World) (hr : Row w o 114 (opV s bv A (L.length + 1) c)) (hs : Sl w 2 Sec.cells A c (x :: L)) :
    Calls Tryz.prog 90 #[.pointer (some ⟨o, 0, none⟩), .string x.name] w fun e w' => e = .returned (.slice x.A x.bs.length x.c) ∧ Row w' o 114 (opV s bv (tailA A c) L.length (c - 1)) ∧ Turn w w' [o] := by
  obtain ⟨b, off, rfl, hb, c0, c1⟩ := sl_sec hs 0 (by simp)
  have r2 := hr.cell 2 _ rfl
  have f2 := hr.soft 2
  have HR := Lib.hid hr
  have hcap := hs.cap
  have hbig := hs.big
  simp only [List.length_cons] at hcap
  clear hr hs
  simp only [List.getElem_cons_zero, Nat.zero_mul, Nat.add_zero] at c0 c1
  have HSO := Lib.hid so_ok
  by_cases hc1 : c = 1
  · go_enter Tryz.func90, Tryz.ntmps90
    go_wp2_with (go_at_call 50; refine (HSO.out _).mono ?_; rintro e w' ⟨rfl, rfl⟩)
    go_ret
    exact ⟨rfl, by rw [tailA_some, if_pos hc1, hc1]; exact HR.out.set 2 _, Turn.set w _ _⟩
  · go_enter Tryz.func90, Tryz.ntmps90
    go_wp2_with (go_at_call 50; refine (HSO.out _).mono ?_; rintro e w' ⟨rfl, rfl⟩)
    go_ret
    exact ⟨rfl, by rw [tailA_some, if_neg hc1]; exact HR.out.set 2 _, Turn.set w _ _⟩
/-- no image: short -/
theorem sread_nil (w : World) : Calls Tryz.prog 45 #[.slice none 0 0] w fun e w' => e = .returned (.tuple #[.slice none 0 0, .int .i64 4]) ∧ Keep w w' := by
  have hmin : min (0 : Int) 4 = 0 := by decide
  have hcv : (convert 74 9 (.slice none 0 0)).run Tryz.prog w.drew = .ok (.string ⟨#[]⟩) w.drew := strB (l := []) (Sl.nil_ _ (by decide))
  have hex : ((⟨#[73, 83, 71, 76]⟩ : ByteArray).extract 0 0).toList = [] := by rw [Lib.toList_data]; rfl
  have hex0 : (⟨#[]⟩ : ByteArray).toList = [] := by rw [Lib.toList_data]
  go_enter Tryz.func45, Tryz.ntmps45
  go_wp2
  go_region
  all_goals go_wp2
  all_goals go_ret2
  all_goals exact ⟨rfl, (by repeat (first | exact Keep.refl _ | apply Keep.alloc | apply Keep.gro | apply Keep.drew | apply Keep.drewN))⟩
/-- no star-tree -/
theorem tree_no (o s : Nat) (bv lv : Value) (f0 f1 f2 f3 f5 f6 f7 f8 : Value) (A : Option Addr) (c : Nat) (w : World) (hr : Row w o 114 [.pointer (some ⟨s, 0, none⟩), bv, lv]) (hs : Row w s 30 [f0, f1, f2, f3, .slice A 0 c, f5, f6, f7, f8]) :
    Calls Tryz.prog 49 #[.pointer (some ⟨o, 0, none⟩)] w fun e w' => e = .returned (.tuple #[]) ∧ w = w' := by
  have r0 := hr.cell 0 _ rfl
  have r4 := hs.cell 4 _ rfl
  clear hr hs
  go_enter Tryz.func49, Tryz.ntmps49
  go_wp2
  exact bodyPost_ret (v := .tuple #[]) (by simp [results, Tryz.results49, go_sem]) rfl ⟨rfl, rfl⟩
end Go.Proofs.YtmcaednlilhnoaaGreatDoor
