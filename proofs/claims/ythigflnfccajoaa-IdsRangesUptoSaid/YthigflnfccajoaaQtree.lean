
/- What is wrong with a question: a filter's node. -/
import Derived.WalkKit
import Derived.Lib.Hide
import Derived.WalkSpells
import Derived.WalkLawsBesides
import Derived.BigQuiet
import Derived.Shelf.Abstract
import Derived.Deep.RegionWith
import Derived.Deep.CutRange
import Derived.Deep.DeepCutAuto
import Derived.Deep.CutBlock
import Derived.Test.YthigflnfccajoaaQnode
namespace Go.Proofs.Ythigflnfccajoaa
open Go.RowKit Go.Zone Go.Shelf
attribute [local go_sem] Zone.zone Zone.stepZ Zone.fill Zone.lookFs Zone.goes Zone.goesUpon Zone.dropFs Zone.cell_gro Zone.frozen_gro Zone.size_gro Zone.lt_add Zone.drew_gro Zone.tape_gro Zone.keep_refl
attribute [local go_sem] Zone.lt_add2 Zone.lt_add3 Zone.lt_add4 Zone.lt_add5 Zone.lt_add6 Zone.lt_add7 Zone.lt_add8 Zone.lt_add9 Zone.lt_add10 Zone.lt_add11 Zone.lt_add12
theorem kid_lt {n k : Nd} (h : k ∈ n.kids) : SizeOf.sizeOf k < SizeOf.sizeOf n := by
  have h1 := List.sizeOf_lt_of_mem h
  cases n
  simp only [Nd.mk.sizeOf_spec] at h1 ⊢
  omega
def innerB (op kids depth : Int) : Bool := if op = 0 then depth == 1 && kids == 0 else if op = 3 then kids == 1 else op == 1 || op == 2
theorem inner_any' (op kids depth : Int) (w : World) : Calls Try.prog 54 #[.int .u8 op, .int .i64 kids, .int .i64 depth] w fun r w' => r = .returned (.bool (innerB op kids depth)) ∧ Keep w w' := inner_any op kids depth w
def formB (n : Nd) (depth : Nat) : Bool := !n.col.toList.isEmpty || n.cmp != 0 || decide (0 < n.vals.length) || !innerB n.op n.kids.length depth
def nodeE (cols : List Col) (depth : Nat) (e : Int) (n : Nd) : Int :=
  if 64 < depth then soE e true 11 else if n.op = 4 then leafE cols e n
  else n.kids.attach.foldl (fun e k => nodeE cols (depth + 1) e k.1) (soE e (formB n depth) 5)
termination_by SizeOf.sizeOf n
decreasing_by exact kid_lt k.2
def nodesE (cols : List Col) (depth : Nat) (e : Int) (l : List Nd) : Int := l.foldl (nodeE cols depth) e
theorem nodeE_eq (cols : List Col) (depth : Nat) (e : Int) (n : Nd) : nodeE cols depth e n = if 64 < depth then soE e true 11 else if n.op = 4 then leafE cols e n else nodesE cols (depth + 1) (soE e (formB n depth) 5) n.kids := by
  rw [nodeE]
  unfold nodesE
  congr 2
  exact List.foldl_attach (l := n.kids) (f := nodeE cols (depth + 1))
theorem nodesE_succ (cols : List Col) (depth : Nat) (e : Int) (l : List Nd) (i : Nat) (h : i < l.length) : nodesE cols depth e (l.take (i + 1)) = nodeE cols depth (nodesE cols depth e (l.take i)) l[i] := by
  unfold nodesE
  rw [List.take_succ_eq_append_getElem h, List.foldl_append]
  rfl
theorem sl_nd {w : World} {c : Nat} {A : Option Addr} {xs : List Nd} (h : Sl w 5 Nd.cells A c xs) (i : Nat) (hi : i < xs.length) : ∃ b off, A = some ⟨b, off, none⟩ ∧ b < w.heap.size ∧ w.cell? ⟨b, off + i * 5, none⟩ = some (.int .u8 xs[i].op) ∧
    w.cell? ⟨b, off + i * 5 + 1, none⟩ = some (.slice xs[i].A xs[i].kids.length xs[i].c) ∧ w.cell? ⟨b, off + i * 5 + 2, none⟩ = some (.string xs[i].col) ∧ w.cell? ⟨b, off + i * 5 + 3, none⟩ = some (.int .u8 xs[i].cmp) ∧ w.cell? ⟨b, off + i * 5 + 4, none⟩ = some (.slice xs[i].B xs[i].vals.length xs[i].d) := by
  obtain ⟨b, off, hA, hc⟩ := h.at_ i hi
  have h0 := hc 0 _ rfl
  exact ⟨b, off, hA, World.block_lt_of_cell? w _ h0, h0, hc 1 _ rfl, hc 2 _ rfl, hc 3 _ rfl, hc 4 _ rfl⟩
section
variable {b c d : Nat} {A B : Option Addr} {cols : List Col} {kinds : List Int}
set_option maxHeartbeats 8000000 in
theorem node_any (w0 : World) (n : Nd) (hn : Nd.In w0 b n) : ∀ (w : World) (e : Int) (depth : Nat), depth ≤ 100 → w0.grownBy w (some b) → Wr w b A c cols B d kinds e → Sl w 2 Col.cells A c cols →
    Calls Try.prog 22 #[.pointer (some ⟨b, 0, none⟩), n.v, .int .i64 depth] w fun r w' => r = .returned (.tuple #[]) ∧ Wr w' b A c cols B d kinds (nodeE cols depth e n) ∧ w.grownBy w' (some b) := by
  induction hn with
  | mk n hk hv hA hB hi ih =>
  intro w e depth hd hg h hc
  have hn : Nd.In w b n := (Nd.In.mk n hk hv hA hB hi).by_ hg
  have H := Lib.hid h
  have HC := Lib.hid hc
  have HN := Lib.hid hn
  have hb := h.lt
  have hkl := hn.kids_.len
  have hvl := hn.vals_.len
  have IH := Lib.hid ih
  have HG0 := Lib.hid hg
  clear h hc hn hk hv hA hB hi ih hg
  obtain ⟨op, KA, kc, kids, col, cmp, VB, vd, vals⟩ := n
  rw [nodeE_eq]
  simp only [Nd.v] at hkl hvl IH ⊢
  by_cases h64 : 64 < depth
  · rw [if_pos h64]
    go_enter Try.func22, Try.ntmps22
    go_wp2_with (go_at_call 16; refine Zone.hold ?_)
    refine Zone.unhold ?_
    refine (so_any _ 11 _ (H.out.keep (by repeat (first | exact Keep.refl _ | apply Keep.alloc | apply Keep.gro | apply Keep.drew | apply Keep.drewN)))).mono ?_
    rintro e' w1 ⟨rfl, HW1, HG1⟩
    go_wp2
    exact bodyPost_ret (v := .tuple #[]) (by simp [results, Try.results22, go_sem]) rfl ⟨rfl, HW1, By.trans (By.keep (by repeat (first | exact Keep.refl _ | apply Keep.alloc | apply Keep.gro | apply Keep.drew | apply Keep.drewN))) HG1⟩
  · rw [if_neg h64]
    by_cases h4 : op = 4
    · subst h4
      rw [if_pos rfl]
      go_enter Try.func22, Try.ntmps22
      go_wp2_with (go_at_call 53; refine Zone.hold ?_)
      refine Zone.unhold ?_
      refine (leaf_any ⟨4, KA, kc, kids, col, cmp, VB, vd, vals⟩ _ (H.out.keep (by repeat (first | exact Keep.refl _ | apply Keep.alloc | apply Keep.gro | apply Keep.drew | apply Keep.drewN))) (HC.out.keep (by repeat (first | exact Keep.refl _ | apply Keep.alloc | apply Keep.gro | apply Keep.drew | apply Keep.drewN))) (HN.out.keep (by repeat (first | exact Keep.refl _ | apply Keep.alloc | apply Keep.gro | apply Keep.drew | apply Keep.drewN)))).mono ?_
      rintro e' w1 ⟨rfl, HW1, HG1⟩
      go_wp2
      exact bodyPost_ret (v := .tuple #[]) (by simp [results, Try.results22, go_sem]) rfl ⟨rfl, HW1, By.trans (By.keep (by repeat (first | exact Keep.refl _ | apply Keep.alloc | apply Keep.gro | apply Keep.drew | apply Keep.drewN))) HG1⟩
    · rw [if_neg h4]
      generalize hfm : formB ⟨op, KA, kc, kids, col, cmp, VB, vd, vals⟩ depth = fm
      unfold formB at hfm
      simp only at hfm
      have HFM := Lib.hid hfm
      have h4' : (op == 4) = false := by simp [h4]
      clear hfm
      go_enter Try.func22, Try.ntmps22
      go_upto_region 5 with fail
      go_cut [] from 20 to 45 (fun wx => Hid (Wr wx b A c cols B d kinds (soE e fm 5)) ∧ Hid (w.grownBy wx (some b)) ∧ wx.cell? ⟨w.heap.size, 1, none⟩ = some (.slice KA kids.length kc))
      case first =>
        have hF := HFM.out
        cases hce : col.toList.isEmpty
        · simp only [hce, Bool.not_false, Bool.true_or] at hF
          have HFF := Lib.hid hF
          clear hF
          go_wp2_with (go_at_call 16; refine Zone.hold ?_)
          refine Zone.unhold ?_
          refine (so_any _ 5 _ (H.out.keep (by repeat (first | exact Keep.refl _ | apply Keep.alloc | apply Keep.gro | apply Keep.drew | apply Keep.drewN)))).mono ?_
          rintro e' w1 ⟨rfl, HW1, HG1⟩
          go_wp2_with fail
          go_meet
          exact ⟨by rw [← HFF.out]; exact HW1, By.trans (By.keep (by repeat (first | exact Keep.refl _ | apply Keep.gro | exact Keep.alloc (Keep.refl w) (.cells #[.int .u8 op, .slice KA kids.length kc, .string col, .int .u8 cmp, .slice VB vals.length vd] 31)))) HG1, HG1.cell (by simp [go_sem]) (by simp; omega)⟩
        · cases hcm : (cmp != 0)
          · cases hvn : decide (0 < vals.length)
            · simp only [hce, hcm, hvn, Bool.not_true, Bool.false_or] at hF
              have HFF := Lib.hid hF
              clear hF
              go_wp2_with (first | (go_at_call 54; refine (inner_any' _ _ _ _).mono ?_; rintro e w' ⟨rfl, hk⟩; (first | obtain ⟨p, rfl⟩ := Zone.gro_of_gro _ _ hk | obtain ⟨p, rfl⟩ := Zone.gro_of_below _ hk); clear hk) | (go_at_call 16; refine Zone.hold ?_))
              refine Zone.unhold ?_
              refine (so_any _ 5 _ (H.out.keep (by repeat (first | exact Keep.refl _ | apply Keep.alloc | apply Keep.gro | apply Keep.drew | apply Keep.drewN)))).mono ?_
              rintro e' w1 ⟨rfl, HW1, HG1⟩
              go_wp2_with fail
              go_meet
              exact ⟨by rw [← HFF.out]; exact HW1, By.trans (By.keep (by repeat (first | exact Keep.refl _ | apply Keep.gro | exact Keep.alloc (Keep.refl w) (.cells #[.int .u8 op, .slice KA kids.length kc, .string col, .int .u8 cmp, .slice VB vals.length vd] 31)))) HG1, HG1.cell (by simp [go_sem]) (by simp; omega)⟩
            · simp only [hce, hcm, hvn, Bool.not_true, Bool.false_or, Bool.true_or] at hF
              have HFF := Lib.hid hF
              clear hF
              go_wp2_with (go_at_call 16; refine Zone.hold ?_)
              refine Zone.unhold ?_
              refine (so_any _ 5 _ (H.out.keep (by repeat (first | exact Keep.refl _ | apply Keep.alloc | apply Keep.gro | apply Keep.drew | apply Keep.drewN)))).mono ?_
              rintro e' w1 ⟨rfl, HW1, HG1⟩
              go_wp2_with fail
              go_meet
              exact ⟨by rw [← HFF.out]; exact HW1, By.trans (By.keep (by repeat (first | exact Keep.refl _ | apply Keep.gro | exact Keep.alloc (Keep.refl w) (.cells #[.int .u8 op, .slice KA kids.length kc, .string col, .int .u8 cmp, .slice VB vals.length vd] 31)))) HG1, HG1.cell (by simp [go_sem]) (by simp; omega)⟩
          · simp only [hce, hcm, Bool.not_true, Bool.false_or, Bool.true_or] at hF
            have HFF := Lib.hid hF
            clear hF
            go_wp2_with (go_at_call 16; refine Zone.hold ?_)
            refine Zone.unhold ?_
            refine (so_any _ 5 _ (H.out.keep (by repeat (first | exact Keep.refl _ | apply Keep.alloc | apply Keep.gro | apply Keep.drew | apply Keep.drewN)))).mono ?_
            rintro e' w1 ⟨rfl, HW1, HG1⟩
            go_wp2_with fail
            go_meet
            exact ⟨by rw [← HFF.out]; exact HW1, By.trans (By.keep (by repeat (first | exact Keep.refl _ | apply Keep.gro | exact Keep.alloc (Keep.refl w) (.cells #[.int .u8 op, .slice KA kids.length kc, .string col, .int .u8 cmp, .slice VB vals.length vd] 31)))) HG1, HG1.cell (by simp [go_sem]) (by simp; omega)⟩
      case rest =>
        rename World => w4
        obtain ⟨HW4, HG4, hx1⟩ := hcut
        have hq := World.block_lt_of_cell? _ _ hx1
        simp only at hq
        have HKS := Lib.hid (HN.out.by_ HG4.out)
        have HC4 := Lib.hid (HW4.out.cols_ HG4.out HC.out)
        have HG5 := Lib.hid (By.trans HG0.out HG4.out)
        clear HFM HN HC H HG0
        have hdw : IntKind.i64.wrap ((depth : Int) + 1) = ((depth + 1 : Nat) : Int) := by rw [IntWalk.i64_in _ ⟨by omega, by omega⟩]; omega
        go_wp2
        go_loopw [49] (fun i wr => ∃ m : Nat, m ≤ kids.length ∧ i = .int .i64 m ∧ Hid (Wr wr b A c cols B d kinds (nodesE cols (depth + 1) (soE e fm 5) (kids.take m))) ∧ Hid (w4.grownBy wr (some b))) (fun i _ => kids.length - (intOf i).toNat)
        case atStart => exact ⟨0, Nat.zero_le _, rfl, HW4.out, World.grownBy.refl _ _⟩
        case round =>
          obtain ⟨m, hm, rfl, HWr, HGr⟩ := hrel
          by_cases hlt : m < kids.length
          · have hS2 := By.sl HGr.out HKS.out.kids_ (fun g off hg hp he => HKS.out.neA g off hg hp (Option.some.inj he))
            simp only at hS2
            obtain ⟨g, off, hA, hg, k0, k1, k2, k3, k4⟩ := sl_nd hS2 m hlt
            subst hA
            have HI := Lib.hid (IH.out kids[m] (List.getElem_mem hlt))
            have HSC := Lib.hid (HWr.out.cols_ HGr.out HC4.out)
            have HEE := Lib.hid (nodesE_succ cols (depth + 1) (soE e fm 5) kids m hlt)
            clear hS2
            go_wp2_with (go_at_call 22; refine Zone.hold ?_)
            refine Zone.unhold ?_
            rw [show (depth : Int) + 1 = ((depth + 1 : Nat) : Int) by omega]
            refine (HI.out _ _ (depth + 1) (by omega) (By.trans HG5.out (By.trans HGr.out (By.keep (by repeat (first | exact Keep.refl _ | apply Keep.alloc | apply Keep.gro | apply Keep.drew | apply Keep.drewN))))) (HWr.out.keep (by repeat (first | exact Keep.refl _ | apply Keep.alloc | apply Keep.gro | apply Keep.drew | apply Keep.drewN))) (HSC.out.keep (by repeat (first | exact Keep.refl _ | apply Keep.alloc | apply Keep.gro | apply Keep.drew | apply Keep.drewN)))).mono ?_
            rintro e' w5 ⟨rfl, HW5, HG6⟩
            go_wp2
            go_roundw
            case rel => exact ⟨m + 1, by omega, by go_num, by rw [HEE.out]; exact HW5, By.trans HGr.out (By.trans (By.keep (Keep.alloc (Keep.refl wr) _)) HG6)⟩
            case measure => simp [intOf]; omega
          · have : m = kids.length := by omega
            subst this
            rw [List.take_length] at HWr
            go_wp2
            exact bodyPost_end (v := .tuple #[]) (by simp [results, Try.results22, go_sem]) rfl ⟨rfl, HWr.out, By.trans HG4.out HGr.out⟩
end
end Go.Proofs.Ythigflnfccajoaa
