
/- segment: Row of the sample's segment. -/
import Derived.WalkKit
import Derived.Lib.Hide
import Derived.WalkSpells
import Derived.WalkLawsBesides
import Derived.BigQuiet
import Derived.Shelf.Abstract
import Derived.Test.YtmcaednlilhnoaaGreatDoorSh
import Derived.Test.YtmcaednlilhnoaaGreatDoorFd
import Derived.Test.YtmcaednlilhnoaaGreatDoorSl2
namespace Go.Proofs.YtmcaednlilhnoaaGreatDoor
open Go.RowKit Go.Zone Go.Shelf
attribute [local go_sem] Zone.zone Zone.stepZ Zone.fill Zone.lookFs Zone.goes Zone.goesUpon Zone.dropFs Zone.cell_gro Zone.frozen_gro Zone.size_gro Zone.lt_add Zone.drew_gro Zone.tape_gro Zone.keep_refl
attribute [local go_sem] Zone.lt_add2 Zone.lt_add3 Zone.lt_add4 Zone.lt_add5 Zone.lt_add6 Zone.lt_add7 Zone.lt_add8 Zone.lt_add9 Zone.lt_add10 Zone.lt_add11 Zone.lt_add12
/-- the sample's segment: its one column's dictionary and index -/
structure SegK (w : World) (s cb db fb : Nat) (f0 f2 f3 f4 : Value) (cc : Nat) (Ad : Option Addr) (cd : Nat) (Af : Option Addr) (cf : Nat) : Prop where
  row : Row w s 30 [f0, .int .i64 (-1), f2, f3, f4, .int .i64 1, .int .i64 3, .slice (some ⟨cb, 0, none⟩) 1 cc, .pointer none]
  c0 : w.cell? ⟨cb, 0, none⟩ = some (.pointer (some ⟨db, 0, none⟩))
  c1 : w.cell? ⟨cb, 1, none⟩ = some (.pointer (some ⟨fb, 0, none⟩))
  c2 : w.cell? ⟨cb, 2, none⟩ = some (.pointer none)
  c3 : w.cell? ⟨cb, 3, none⟩ = some (.pointer none)
  c4 : w.cell? ⟨cb, 4, none⟩ = some (.pointer none)
  c5 : w.cell? ⟨cb, 5, none⟩ = some (.pointer none)
  d : DictAt w db 1 Ad cd ysK
  f : IdxAt w fb 3 2 1 Af cf (packB idsK 1)
  cc1 : 1 ≤ cc
theorem SegK.keep {w w' : World} {s cb db fb : Nat} {f0 f2 f3 f4 : Value} {cc : Nat} {Ad : Option Addr} {cd : Nat} {Af : Option Addr} {cf : Nat} (h : SegK w s cb db fb f0 f2 f3 f4 cc Ad cd Af cf) (hk : Keep w w') : SegK w' s cb db fb f0 f2 f3 f4 cc Ad cd Af cf := by
  have hl : cb < w.heap.size := World.block_lt_of_cell? w _ h.c0
  have e : ∀ j u, w.cell? ⟨cb, j, none⟩ = some u → w'.cell? ⟨cb, j, none⟩ = some u := fun j u hu => (hk.cell (p := ⟨cb, j, none⟩) hl).trans hu
  exact ⟨h.row.keep hk, e _ _ h.c0, e _ _ h.c1, e _ _ h.c2, e _ _ h.c3, e _ _ h.c4, e _ _ h.c5, h.d.keep hk, h.f.keep hk, h.cc1⟩
def rowK (i : Nat) : Val := ysK.getD (idsK.getD i 0) zeroVal
section
variable {w : World} {s cb db fb : Nat} {f0 f2 f3 f4 : Value} {cc : Nat} {Ad : Option Addr} {cd : Nat} {Af : Option Addr} {cf : Nat}
theorem snone_at {A : Option Addr} {c n : Nat} {f1 f5 f6 f7 f8 : Value} (hr : Row w s 30 [.slice A (n + 1) c, f1, f2, f3, f4, f5, f6, f7, f8]) : Calls Tryz.prog 17 #[.pointer (some ⟨s, 0, none⟩)] w fun e w' => e = .returned (.bool false) ∧ w = w' := by
  have c0 := hr.cell 0 _ rfl
  clear hr
  have hd : decide ((n : Int) + 1 = 0) = false := by simp; omega
  have hd2 : ((n : Int) + 1 == 0) = false := by simp; omega
  go_enter Tryz.func17, Tryz.ntmps17
  go_wp2
  all_goals go_ret
  all_goals exact ⟨rfl, rfl⟩
set_option maxRecDepth 100000 in
set_option maxHeartbeats 4000000 in
theorem srow_k {A : Option Addr} {c : Nat} (i : Nat) (hi : i < 3) (h : SegK w s cb db fb (.slice A 1 c) f2 f3 f4 cc Ad cd Af cf) :
    Calls Tryz.prog 4 #[.pointer (some ⟨s, 0, none⟩), .int .i64 i] w fun e w' => ∃ A' c', e = .returned (.tuple #[.slice A' 1 c', .int .i64 0]) ∧ Zone.Own w' w.heap.size 61 3 Val.cells (.slice A' 1 c') [rowK i] ∧ Keep w w' := by
  have hil : i < idsK.length := hi
  have hyl : idsK[i] < ysK.length := (by decide : ∀ y ∈ idsK, y < 2) _ (List.getElem_mem hil)
  have HN := Lib.hid (snone_at (n := 0) h.row)
  have HF := Lib.hid (fun W (hk : Keep w W) => fget_ids (ids := idsK) (wd := 1) i (h.f.keep hk) (by decide) (by decide) (by decide) (by decide) hil)
  have hrk : ysK[idsK[i]] = rowK i := by simp [rowK, List.getD, hil, hyl]
  have HD := Lib.hid (fun W (hk : Keep w W) => value_at (idsK[i]) W (h.d.keep hk) (by decide) hyl)
  rw [hrk] at HD
  have s6 := h.row.cell 6 _ rfl
  have s7 := h.row.cell 7 _ rfl
  have x0 := h.c0
  have x1 := h.c1
  have x2 := h.c2
  have x3 := h.c3
  have x4 := h.c4
  have x5 := h.c5
  have hcb := block_lt_of_cell x0
  have hsb := h.row.lt
  simp only at hcb
  have hi2 : (i : Int) < 3 := by omega
  have hd0 : decide ((i : Int) < 0) = false := by simp
  have hd3 : decide ((3 : Int) ≤ (i : Int)) = false := by simp; omega
  clear hrk hyl h
  generalize idsK[i] = id at HF HD
  generalize rowK i = v at HD ⊢
  obtain ⟨vk, vn, vs⟩ := v
  clear hil
  go_enter Tryz.func4, Tryz.ntmps4
  go_wp2_with (go_at_call 17; refine (HN.out).mono ?_; rintro e w' ⟨rfl, rfl⟩)
  go_loopw [6, 34] (fun v i wr => (i = .int .i64 0 ∧ v = .slice none 0 0 ∧ wr = w) ∨ (i = .int .i64 1 ∧ ∃ A' c', v = .slice A' 1 c' ∧ Hid (Zone.Own wr w.heap.size 61 3 Val.cells (.slice A' 1 c') [⟨vk, vn, vs⟩]) ∧ Hid (Keep w wr))) (fun _ i _ => 1 - (intOf i).toNat)
  case atStart => exact .inl ⟨rfl, rfl, rfl⟩
  case round =>
    rcases hrel with ⟨rfl, rfl, rfl⟩ | ⟨rfl, A', c', rfl, HO, HK⟩
    · go_wp2_with (first | (go_at_call 19; refine (HF.out _ (by repeat (first | exact Keep.refl _ | apply Keep.alloc | apply Keep.gro | apply Keep.drew | apply Keep.drewN))).mono ?_; rintro e w' ⟨rfl, hk⟩; (first | obtain ⟨p, rfl⟩ := Zone.gro_of_gro _ _ hk | obtain ⟨p, rfl⟩ := Zone.gro_of_below _ hk); clear hk) | (go_at_call 20; refine (HD.out _ (by repeat (first | exact Keep.refl _ | apply Keep.alloc | apply Keep.gro | apply Keep.drew | apply Keep.drewN))).mono ?_; rintro e w' ⟨rfl, hk⟩; (first | obtain ⟨p, rfl⟩ := Zone.gro_of_gro _ _ hk | obtain ⟨p, rfl⟩ := Zone.gro_of_below _ hk); clear hk) | (at_builtin; refine Zone.hold ?_))
      refine Zone.unhold ?_
      rename GB => p
      have hk : Keep wr ((((wr.alloc (.cells #[.pointer (some ⟨db, 0, none⟩), .pointer (some ⟨fb, 0, none⟩), .pointer none, .pointer none, .pointer none, .pointer none] 57)).gro p).alloc (.cells #[.int .u8 vk, .int .i64 vn, .string vs] 61)).alloc (.cells #[.int .u8 vk, .int .i64 vn, .string vs] 61)) := (by repeat (first | exact Keep.refl _ | apply Keep.alloc | apply Keep.gro | apply Keep.drew | apply Keep.drewN))
      refine wpList_app elt_val val_len val_one rfl (.tmp 67) (.tmp 69) rfl (ys := [(⟨vk, vn, vs⟩ : Val)]) (Zone.Own.nil_ _ wr.heap.size _ _ _) rfl rfl (sl_one (enc := Val.cells) (k := 3) (c := 1) (⟨vk, vn, vs⟩ : Val) (by omega) (by omega) (val_at (⟨vk, vn, vs⟩ : Val) (by simp [go_sem]) (by simp [go_sem]) (by simp [go_sem]))) (by simp) hk.size ?_
      intro v' w4 hown4 hg4 _
      have HK4 := Lib.hid (hk.grown hg4 fun k e => by simp [Value.ownBlock] at e)
      have HO4 := Lib.hid hown4
      obtain ⟨A4, c4, rfl, _⟩ := hown4.sl val_len (by simp)
      clear hk hg4 hown4 x0 x1 x2 x3 x4 x5 s6 s7 HN HF HD
      go_wp2
      go_roundw
      case rel => exact .inr ⟨rfl, A4, c4, rfl, HO4, HK4⟩
      case measure => simp [intOf]
    · go_wp2
      go_ret2
      exact ⟨A', c', rfl, HO.out, HK.out⟩
end
end Go.Proofs.YtmcaednlilhnoaaGreatDoor
