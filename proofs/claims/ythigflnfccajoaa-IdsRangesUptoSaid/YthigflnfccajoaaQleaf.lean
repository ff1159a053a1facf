
/- What is wrong with a question: the gatherer's methods out, by, agg, leaf. -/
import Derived.WalkKit
import Derived.Lib.Hide
import Derived.WalkSpells
import Derived.WalkLawsBesides
import Derived.BigQuiet
import Derived.Shelf.Abstract
import Derived.Deep.RegionWith
import Derived.Deep.CutRange
import Derived.Deep.DeepCutAuto
import Derived.Test.YthigflnfccajoaaQwr
namespace Go.Proofs.Ythigflnfccajoaa
open Go.RowKit Go.Zone Go.Shelf
attribute [local go_sem] Zone.zone Zone.stepZ Zone.fill Zone.lookFs Zone.goes Zone.goesUpon Zone.dropFs Zone.cell_gro Zone.frozen_gro Zone.size_gro Zone.lt_add Zone.drew_gro Zone.tape_gro Zone.keep_refl
attribute [local go_sem] Zone.lt_add2 Zone.lt_add3 Zone.lt_add4 Zone.lt_add5 Zone.lt_add6 Zone.lt_add7 Zone.lt_add8 Zone.lt_add9 Zone.lt_add10 Zone.lt_add11 Zone.lt_add12
def outE (kinds : List Int) (e n : Int) : Int := if n < 0 ∨ (kinds.length : Int) ≤ n then soE e true 7 else e
def outK (kinds : List Int) (n : Int) : Int := if n < 0 ∨ (kinds.length : Int) ≤ n then 0 else kinds.getD n.toNat 0
@[reducible] def byteK (k : Int) : List Value := [.int .u8 k]
theorem sl_k {w : World} {c : Nat} {A : Option Addr} {xs : List Int} (h : Sl w 1 byteK A c xs) (i : Nat) (hi : i < xs.length) : ∃ b off, A = some ⟨b, off, none⟩ ∧ b < w.heap.size ∧ w.cell? ⟨b, off + i, none⟩ = some (.int .u8 xs[i]) := by
  obtain ⟨b, off, hA, hc⟩ := h.at_ i hi
  have h0 := hc 0 _ rfl
  exact ⟨b, off, hA, World.block_lt_of_cell? w _ h0, by simpa using h0⟩
section
variable {b c d : Nat} {A B : Option Addr} {cols : List Col} {kinds : List Int} {e : Int}
theorem out_any (n : Int) (w : World) (h : Wr w b A c cols B d kinds e) (hk : Sl w 1 byteK B d kinds) :
    Calls Try.prog 24 #[.pointer (some ⟨b, 0, none⟩), .int .i64 n] w fun r w' => r = .returned (.int .u8 (outK kinds n)) ∧ Wr w' b A c cols B d kinds (outE kinds e n) ∧ w.grownBy w' (some b) := by
  have H := Lib.hid h
  have hl := hk.len
  have h1 := h.c1
  have hb := h.lt
  clear h
  by_cases h0 : n < 0
  · have e1 : outK kinds n = 0 := by simp [outK, h0]
    have e2 : outE kinds e n = soE e true 7 := by simp [outE, h0]
    rw [e1, e2]
    have hd : decide (n < 0) = true := by simp [h0]
    clear e1 e2 hk
    go_enter Try.func24, Try.ntmps24
    go_wp2_with (go_at_call 16; refine Zone.hold ?_)
    refine Zone.unhold ?_
    refine (so_any _ 7 _ (H.out.keep (by repeat (first | exact Keep.refl _ | apply Keep.alloc | apply Keep.gro | apply Keep.drew | apply Keep.drewN)))).mono ?_
    rintro e' w1 ⟨rfl, HW1, HG1⟩
    go_wp2
    go_ret
    exact ⟨rfl, HW1, HG1⟩
  · have hd : decide (n < 0) = false := by simp [h0]
    by_cases h2 : (kinds.length : Int) ≤ n
    · have e1 : outK kinds n = 0 := by simp [outK, h2]
      have e2 : outE kinds e n = soE e true 7 := by simp [outE, h2]
      rw [e1, e2]
      clear e1 e2 hk
      go_enter Try.func24, Try.ntmps24
      go_wp2_with (go_at_call 16; refine Zone.hold ?_)
      refine Zone.unhold ?_
      refine (so_any _ 7 _ (H.out.keep (by repeat (first | exact Keep.refl _ | apply Keep.alloc | apply Keep.gro | apply Keep.drew | apply Keep.drewN)))).mono ?_
      rintro e' w1 ⟨rfl, HW1, HG1⟩
      go_wp2
      go_ret
      exact ⟨rfl, HW1, HG1⟩
    · obtain ⟨i, rfl⟩ : ∃ i : Nat, n = i := ⟨n.toNat, by omega⟩
      have hi : i < kinds.length := by omega
      have e1 : outK kinds i = kinds[i] := by simp [outK, hi]; omega
      have e2 : outE kinds e i = e := by simp [outE, hi]; omega
      obtain ⟨g, off, rfl, hg, hc⟩ := sl_k hk i hi
      rw [e1, e2]
      clear e1 e2 hk
      go_enter Try.func24, Try.ntmps24
      go_wp2
      go_ret
      exact ⟨rfl, H.out, World.grownBy.refl _ _⟩
def byE (cols : List Col) (e : Int) (n : ByteArray) : Int := soE (soE e (!(findC cols n).2) 7) ((findC cols n).2 && (findC cols n).1.kind == 3) 9
theorem by_any (n : ByteArray) (w : World) (h : Wr w b A c cols B d kinds e) (hc : Sl w 2 Col.cells A c cols) :
    Calls Try.prog 18 #[.pointer (some ⟨b, 0, none⟩), .string n] w fun r w' => r = .returned (.tuple #[]) ∧ Wr w' b A c cols B d kinds (byE cols e n) ∧ w.grownBy w' (some b) := by
  have H := Lib.hid h
  have HF := Lib.hid (fun W (hW : Keep w W) => find_any A c cols n W (hc.keep hW))
  have h0 := h.c0
  have hb := h.lt
  clear h hc
  unfold byE
  generalize findC cols n = f at HF ⊢
  obtain ⟨⟨nm, k⟩, has⟩ := f
  simp only at HF ⊢
  go_enter Try.func18, Try.ntmps18
  go_wp2_with (first | (go_at_call 50; refine (HF.out _ (by repeat (first | exact Keep.refl _ | apply Keep.alloc | apply Keep.gro | apply Keep.drew | apply Keep.drewN))).mono ?_; rintro e w' ⟨rfl, hk⟩; (first | obtain ⟨p, rfl⟩ := Zone.gro_of_gro _ _ hk | obtain ⟨p, rfl⟩ := Zone.gro_of_below _ hk); clear hk) | (go_at_call 16; refine Zone.hold ?_))
  refine Zone.unhold ?_
  refine (so_any _ 7 _ (H.out.keep (by repeat (first | exact Keep.refl _ | apply Keep.alloc | apply Keep.gro | apply Keep.drew | apply Keep.drewN)))).mono ?_
  rintro e' w1 ⟨rfl, HW1, HG1⟩
  have hbx : w1.cell? ⟨w.heap.size + p.os.size, 1, none⟩ = some (.int .u8 k) := HG1.cell (by simp [go_sem]) (by simp; omega)
  have hlt := World.block_lt_of_cell? _ _ hbx
  simp only at hlt
  have HG := Lib.hid (By.trans (By.keep (show Keep w ((w.gro p).alloc (.cells #[.string nm, .int .u8 k] 24)) from (by repeat (first | exact Keep.refl _ | apply Keep.alloc | apply Keep.gro | apply Keep.drew | apply Keep.drewN)))) HG1)
  have HW := Lib.hid HW1
  clear HW1 HG1 H HF h0
  cases has
  · go_wp2_with (go_at_call 16; refine Zone.hold ?_)
    refine Zone.unhold ?_
    refine (so_any _ 9 _ (HW.out.keep (by repeat (first | exact Keep.refl _ | apply Keep.alloc | apply Keep.gro | apply Keep.drew | apply Keep.drewN)))).mono ?_
    rintro e' w2 ⟨rfl, HW2, HG2⟩
    go_wp2
    exact bodyPost_end (v := .tuple #[]) (by simp [results, Try.results18, go_sem]) rfl ⟨rfl, HW2, By.trans HG.out HG2⟩
  · go_wp2_with (go_at_call 16; refine Zone.hold ?_)
    refine Zone.unhold ?_
    refine (so_any _ 9 _ (HW.out.keep (by repeat (first | exact Keep.refl _ | apply Keep.alloc | apply Keep.gro | apply Keep.drew | apply Keep.drewN)))).mono ?_
    rintro e' w2 ⟨rfl, HW2, HG2⟩
    go_wp2
    exact bodyPost_end (v := .tuple #[]) (by simp [results, Try.results18, go_sem]) rfl ⟨rfl, HW2, By.trans HG.out HG2⟩
/-- an aggregate -/
structure Ag where
  fn : Int
  col : ByteArray
def Ag.cells (x : Ag) : List Value := [.int .u8 x.fn, .string x.col]
@[reducible] def Ag.v (x : Ag) : Value := .agg #[.int .u8 x.fn, .string x.col]
instance : Inhabited Ag := ⟨⟨0, ByteArray.empty⟩⟩
def aggE (cols : List Col) (e : Int) (x : Ag) : Int :=
  if x.fn = 1 then soE (soE e (decide (x.fn < 1) || decide (4 < x.fn)) 5) (!x.col.toList.isEmpty) 5
  else soE (soE (soE e (decide (x.fn < 1) || decide (4 < x.fn)) 5) (!(findC cols x.col).2) 7) ((findC cols x.col).2 && (findC cols x.col).1.kind != 3) 9
set_option maxHeartbeats 8000000 in
theorem agg_any (x : Ag) (w : World) (h : Wr w b A c cols B d kinds e) (hc : Sl w 2 Col.cells A c cols) :
    Calls Try.prog 20 #[.pointer (some ⟨b, 0, none⟩), x.v] w fun r w' => r = .returned (.tuple #[]) ∧ Wr w' b A c cols B d kinds (aggE cols e x) ∧ w.grownBy w' (some b) := by
  obtain ⟨fn, col⟩ := x
  have H := Lib.hid h
  have HC := Lib.hid hc
  have hb := h.lt
  clear h hc
  simp only [Ag.v]
  have hor : (decide (fn < 1) || decide (4 < fn)) = true ∨ (decide (fn < 1) || decide (4 < fn)) = false := by cases (decide (fn < 1) || decide (4 < fn)) <;> simp
  by_cases h1 : fn = 1
  · subst h1
    have e1 : aggE cols e ⟨1, col⟩ = soE e (!col.toList.isEmpty) 5 := rfl
    rw [e1]
    clear e1 hor
    go_enter Try.func20, Try.ntmps20
    go_wp2_with (go_at_call 16; refine Zone.hold ?_)
    refine Zone.unhold ?_
    refine (so_any _ 5 _ (H.out.keep (by repeat (first | exact Keep.refl _ | apply Keep.alloc | apply Keep.gro | apply Keep.drew | apply Keep.drewN)))).mono ?_
    rintro e' w1 ⟨rfl, HW1, HG1⟩
    have hx0 : w1.cell? ⟨w.heap.size, 0, none⟩ = some (.int .u8 1) := HG1.cell (by simp [go_sem]) (by simp; omega)
    have hx1 : w1.cell? ⟨w.heap.size, 1, none⟩ = some (.string col) := HG1.cell (by simp [go_sem]) (by simp; omega)
    have hlt := World.block_lt_of_cell? _ _ hx0
    simp only at hlt
    have HG := Lib.hid (By.trans (By.keep (show Keep w (w.alloc (.cells #[.int .u8 1, .string col] 37)) from (by repeat (first | exact Keep.refl _ | apply Keep.alloc | apply Keep.gro | apply Keep.drew | apply Keep.drewN)))) HG1)
    have HW := Lib.hid HW1
    clear HW1 HG1 H HC
    go_wp2_with (go_at_call 16; refine Zone.hold ?_)
    refine Zone.unhold ?_
    refine (so_any _ 5 _ (HW.out.keep (by repeat (first | exact Keep.refl _ | apply Keep.alloc | apply Keep.gro | apply Keep.drew | apply Keep.drewN)))).mono ?_
    rintro e' w2 ⟨rfl, HW2, HG2⟩
    go_wp2
    exact bodyPost_ret (v := .tuple #[]) (by simp [results, Try.results20, go_sem]) rfl ⟨rfl, HW2, By.trans HG.out HG2⟩
  · have e1 : aggE cols e ⟨fn, col⟩ = soE (soE (soE e (decide (fn < 1) || decide (4 < fn)) 5) (!(findC cols col).2) 7) ((findC cols col).2 && (findC cols col).1.kind != 3) 9 := by simp [aggE, h1]
    rw [e1]
    have hd1 : (fn == 1) = false := by simp [h1]
    clear e1
    have HF0 := Lib.hid (fun W (hS : Sl W 2 Col.cells A c cols) => find_any A c cols col W hS)
    generalize findC cols col = f at HF0 ⊢
    obtain ⟨⟨nm, k⟩, has⟩ := f
    simp only at HF0 ⊢
    go_enter Try.func20, Try.ntmps20
    go_upto_region 1 with fail
    go_cut [] from 6 to 15 (fun wx => Hid (Wr wx b A c cols B d kinds (soE e (decide (fn < 1) || decide (4 < fn)) 5)) ∧ Hid (Sl wx 2 Col.cells A c cols) ∧ wx.cell? ⟨w.heap.size, 0, none⟩ = some (.int .u8 fn) ∧ wx.cell? ⟨w.heap.size, 1, none⟩ = some (.string col) ∧ Hid (w.grownBy wx (some b)))
    case first =>
      by_cases h2 : fn < 1
      · have hd2 : decide (fn < 1) = true := by simp [h2]
        go_wp2_with (go_at_call 16; refine Zone.hold ?_)
        refine Zone.unhold ?_
        refine (so_any _ 5 _ (H.out.keep (by repeat (first | exact Keep.refl _ | apply Keep.alloc | apply Keep.gro | apply Keep.drew | apply Keep.drewN)))).mono ?_
        rintro e' w1 ⟨rfl, HW1, HG1⟩
        go_wp2_with fail
        go_meet
        exact ⟨by rw [hd2]; exact HW1, H.out.cols_ HG1 (HC.out.keep (by repeat (first | exact Keep.refl _ | apply Keep.alloc | apply Keep.gro | apply Keep.drew | apply Keep.drewN))), HG1.cell (by simp [go_sem]) (by simp; omega), HG1.cell (by simp [go_sem]) (by simp; omega), By.trans (By.keep (show Keep w (w.alloc (.cells #[.int .u8 fn, .string col] 37)) from (by repeat (first | exact Keep.refl _ | apply Keep.alloc | apply Keep.gro | apply Keep.drew | apply Keep.drewN)))) HG1⟩
      · have hd2 : decide (fn < 1) = false := by simp [h2]
        go_wp2_with (go_at_call 16; refine Zone.hold ?_)
        refine Zone.unhold ?_
        refine (so_any _ 5 _ (H.out.keep (by repeat (first | exact Keep.refl _ | apply Keep.alloc | apply Keep.gro | apply Keep.drew | apply Keep.drewN)))).mono ?_
        rintro e' w1 ⟨rfl, HW1, HG1⟩
        go_wp2_with fail
        go_meet
        exact ⟨by rw [hd2]; exact HW1, H.out.cols_ HG1 (HC.out.keep (by repeat (first | exact Keep.refl _ | apply Keep.alloc | apply Keep.gro | apply Keep.drew | apply Keep.drewN))), HG1.cell (by simp [go_sem]) (by simp; omega), HG1.cell (by simp [go_sem]) (by simp; omega), By.trans (By.keep (show Keep w (w.alloc (.cells #[.int .u8 fn, .string col] 37)) from (by repeat (first | exact Keep.refl _ | apply Keep.alloc | apply Keep.gro | apply Keep.drew | apply Keep.drewN)))) HG1⟩
    case rest =>
      obtain ⟨HW, HC1, hx0, hx1, HG⟩ := hcut
      have hlt := World.block_lt_of_cell? _ _ hx0
      simp only at hlt
      have hc0 := HW.out.c0
      have hb1 := HW.out.lt
      clear H HC
      go_upto_region 4 with fail
      go_cut [4, 5] from 16 to 33 (fun s4 s5 wx => s5 = .bool has ∧ ∃ q, s4 = .pointer (some ⟨q, 0, none⟩) ∧ wc.heap.size ≤ q ∧ q < wx.heap.size ∧ Hid (Keep wc wx) ∧ wx.cell? ⟨q, 1, none⟩ = some (.int .u8 k))
      case first =>
        go_region_with (go_at_call 50; refine (HF0.out _ (HC1.out.keep (by repeat (first | exact Keep.refl _ | apply Keep.alloc | apply Keep.gro | apply Keep.drew | apply Keep.drewN)))).mono ?_; rintro e w' ⟨rfl, hk⟩; (first | obtain ⟨p, rfl⟩ := Zone.gro_of_gro _ _ hk | obtain ⟨p, rfl⟩ := Zone.gro_of_below _ hk); clear hk)
        all_goals
          go_wp2_with fail
          go_meet
        all_goals exact ⟨rfl, _, rfl, by simp, by simp [size_gro] <;> omega, (by repeat (first | exact Keep.refl _ | apply Keep.alloc | apply Keep.gro | apply Keep.drew | apply Keep.drewN | (refine Keep.setCell ?_ (by simp) _))), by simp [go_sem]⟩
      case rest =>
        obtain ⟨rfl, q, rfl, hq, hqw, HK, hk1⟩ := hcut
        go_wp2_with (go_at_call 16; refine Zone.hold ?_)
        refine Zone.unhold ?_
        refine (so_any _ 7 _ (HW.out.keep HK.out)).mono ?_
        rintro e' w3 ⟨rfl, HW3, HG3⟩
        have hx3 : w3.cell? ⟨q, 1, none⟩ = some (.int .u8 k) := HG3.cell hk1 (by simp; omega)
        have hlt3 := World.block_lt_of_cell? _ _ hx3
        simp only at hlt3
        have HG4 := Lib.hid (By.trans HG.out (By.trans (By.keep HK.out) HG3))
        have HV := Lib.hid HW3
        clear HW3 HG3 HW HG HC1 HF0 HK hx0 hx1 hc0 hk1
        cases has
        · go_wp2_with (go_at_call 16; refine Zone.hold ?_)
          refine Zone.unhold ?_
          refine (so_any _ 9 _ (HV.out)).mono ?_
          rintro e' w4 ⟨rfl, HW4, HG5⟩
          go_wp2
          exact bodyPost_end (v := .tuple #[]) (by simp [results, Try.results20, go_sem]) rfl ⟨rfl, HW4, By.trans HG4.out HG5⟩
        · go_wp2_with (go_at_call 16; refine Zone.hold ?_)
          refine Zone.unhold ?_
          refine (so_any _ 9 _ (HV.out)).mono ?_
          rintro e' w4 ⟨rfl, HW4, HG5⟩
          go_wp2
          exact bodyPost_end (v := .tuple #[]) (by simp [results, Try.results20, go_sem]) rfl ⟨rfl, HW4, By.trans HG4.out HG5⟩
end
end Go.Proofs.Ythigflnfccajoaa
