
/- Whether a filter takes a row: query.Takes. -/
import Derived.WalkKit
import Derived.Lib.Hide
import Derived.WalkSpells
import Derived.WalkLawsBesides
import Derived.BigQuiet
import Derived.Shelf.Abstract
import Derived.Laws.EntriesVeiled
import Derived.Test.YthigflnfccajoaaGreatQcomp
import Derived.Test.YthigflnfccajoaaGreatQtree
namespace Go.Proofs.YthigflnfccajoaaGreat
open Go.RowKit Go.Zone Go.Shelf
attribute [local go_sem] Zone.zone Zone.stepZ Zone.fill Zone.lookFs Zone.goes Zone.goesUpon Zone.dropFs Zone.cell_gro Zone.frozen_gro Zone.size_gro Zone.lt_add Zone.drew_gro Zone.tape_gro Zone.keep_refl
attribute [local go_sem] Zone.lt_add2 Zone.lt_add3 Zone.lt_add4 Zone.lt_add5 Zone.lt_add6 Zone.lt_add7 Zone.lt_add8 Zone.lt_add9 Zone.lt_add10 Zone.lt_add11 Zone.lt_add12
theorem any_att {α : Type} (l : List α) (p : α → Bool) : (l.attach.any fun x => p x.1) = l.any p := by
  conv => rhs; rw [← List.attach_map_subtype_val l, List.any_map]
  rfl
def leafB (cols : List Col) (row : List Val) (col : ByteArray) (cmp : Int) (vals : List Val) : Bool :=
  decide (0 ≤ idxP (isCol col) cols 0) && (decide (idxP (isCol col) cols 0 < row.length) && compB (row.getD (idxP (isCol col) cols 0).toNat default) cmp vals)
/-- Whether a filter takes a row. -/
def takesB (cols : List Col) (row : List Val) (n : Nd) : Bool :=
  if n.op = 1 then !(n.kids.attach.any fun k => !takesB cols row k.1)
  else if n.op = 2 then n.kids.attach.any fun k => takesB cols row k.1
  else if n.op = 3 then !(n.kids.attach.any fun k => takesB cols row k.1)
  else if n.op = 4 then leafB cols row n.col n.cmp n.vals else true
termination_by SizeOf.sizeOf n
decreasing_by all_goals exact kid_lt k.2
theorem takesB_eq (cols : List Col) (row : List Val) (n : Nd) : takesB cols row n =
    if n.op = 1 then !(n.kids.any fun k => !takesB cols row k) else if n.op = 2 then n.kids.any (takesB cols row) else if n.op = 3 then !(n.kids.any (takesB cols row)) else if n.op = 4 then leafB cols row n.col n.cmp n.vals else true := by
  rw [takesB]
  rw [any_att n.kids (fun k => !takesB cols row k), any_att n.kids (takesB cols row)]
set_option maxHeartbeats 400000 in
theorem indexNd_any (A : Option Addr) (c : Nat) (xs : List Nd) (g : Nat) (lb : Array Value) (p : Nd → Bool) (w : World) (eg : ∀ args w, (callFunc g args).run Tryz.prog w = .ok (.enter g args) w)
    (h : Sl w 5 Nd.cells A c xs) (hp : ∀ (W : World) (x : Nd), x ∈ xs → Keep w W → Calls Tryz.prog g (#[x.v] ++ lb) W fun e w' => e = .returned (.bool (p x)) ∧ Keep W w') :
    Calls Tryz.prog 90 #[.slice A xs.length c, .func (.func g) #[] lb] w fun e w' => e = .returned (.int .i64 (idxP p xs 0)) ∧ Keep w w' := by
  have hl := sl_len h
  have HP := Lib.hid hp; clear hp
  go_enter Tryz.func90, Tryz.ntmps90
  go_wp2
  go_loopw [5, 8] (fun _ i wr => ∃ k : Nat, k ≤ xs.length ∧ i = .int .i64 k ∧ Hid (Keep w wr) ∧ Hid (∀ j, (h : j < xs.length) → j < k → p xs[j] = false)) (fun _ i _ => xs.length - (intOf i).toNat)
  case atStart => exact ⟨0, Nat.zero_le _, rfl, Keep.refl _, fun j _ hj => absurd hj (Nat.not_lt_zero _)⟩
  case round =>
    obtain ⟨k, hk, rfl, HK, HR⟩ := hrel
    by_cases hlt : k < xs.length
    · have hcall := HP.out wr xs[k] (List.getElem_mem hlt) HK.out
      obtain ⟨b, off, rfl, hb, h0, h1, h2, h3, h4⟩ := sl_nd (h.keep HK.out) k hlt
      clear h
      by_cases hq : p xs[k] = true
      · rw [hq] at hcall
        have HC := Lib.hid hcall
        have HQ := Lib.hid hq
        clear hcall hq
        go_wp2_with (go_at_fn g; refine HC.out.mono ?_; rintro e w' ⟨rfl, hk'⟩)
        go_ret
        exact ⟨ret_int (by rw [idxP_at p xs 0 k HR.out, List.drop_eq_getElem_cons hlt]; simp [idxP, HQ.out]), HK.out.trans hk'⟩
      · have hq' : p xs[k] = false := by simpa using hq
        rw [hq'] at hcall
        have HC := Lib.hid hcall
        have HQ := Lib.hid hq'
        clear hcall hq hq'
        go_wp2_with (go_at_fn g; refine HC.out.mono ?_; rintro e w' ⟨rfl, hk'⟩)
        go_roundw
        case rel => exact ⟨k + 1, by omega, by go_num, HK.out.trans hk', fun j hj hjk => by
          by_cases e : j = k
          · subst e; exact HQ.out
          · exact HR.out j hj (by omega)⟩
        case measure => simp [intOf]; omega
    · go_wp2
      go_ret
      exact ⟨ret_int (by rw [idxP_at p xs 0 xs.length fun j hj _ => HR.out j hj (by omega)]; simp [idxP]), HK.out⟩
theorem containsNd_any (A : Option Addr) (c : Nat) (xs : List Nd) (g : Nat) (lb : Array Value) (p : Nd → Bool) (w : World) (eg : ∀ args w, (callFunc g args).run Tryz.prog w = .ok (.enter g args) w)
    (h : Sl w 5 Nd.cells A c xs) (hp : ∀ (W : World) (x : Nd), x ∈ xs → Keep w W → Calls Tryz.prog g (#[x.v] ++ lb) W fun e w' => e = .returned (.bool (p x)) ∧ Keep W w') :
    Calls Tryz.prog 71 #[.slice A xs.length c, .func (.func g) #[] lb] w fun e w' => e = .returned (.bool (xs.any p)) ∧ Keep w w' := by
  have HP := Lib.hid hp; clear hp
  have HH := Lib.hid h; clear h
  rw [← idxP_any p xs 0]
  go_enter Tryz.func71, Tryz.ntmps71
  go_wp2_with (go_at_call 90; refine (indexNd_any A c xs g lb p _ eg HH.out HP.out).mono ?_; rintro e w' ⟨rfl, hk⟩; (first | obtain ⟨p, rfl⟩ := Zone.gro_of_gro _ _ hk | obtain ⟨p, rfl⟩ := Zone.gro_of_below _ hk); clear hk)
  go_ret
  exact ⟨rfl, (by repeat (first | exact Keep.refl _ | apply Keep.alloc | apply Keep.gro | apply Keep.drew | apply Keep.drewN))⟩
/-- The kid's question, as the closures ask it. -/
def TakesAt (cols : List Col) (row : List Val) (A : Option Addr) (c : Nat) (F : Option Addr) (m : Nat) (k : Nd) (w : World) : Prop :=
  ∀ W, Keep w W → Calls Tryz.prog 35 #[.slice A cols.length c, k.v, .slice F row.length m] W fun e w' => e = .returned (.bool (takesB cols row k)) ∧ Keep W w'
section
variable {A F : Option Addr} {c m : Nat} {cols : List Col} {row : List Val}
theorem takes1_any (k : Nd) (b0 b2 : Nat) (w : World) (h0 : w.cell? ⟨b0, 0, none⟩ = some (.slice A cols.length c)) (h2 : w.cell? ⟨b2, 0, none⟩ = some (.slice F row.length m)) (ht : TakesAt cols row A c F m k w) :
    Calls Tryz.prog 70 #[k.v, .pointer (some ⟨b0, 0, none⟩), .pointer (some ⟨b2, 0, none⟩)] w fun e w' => e = .returned (.bool (takesB cols row k)) ∧ Keep w w' := by
  have HT := Lib.hid ht
  have hb0 := World.block_lt_of_cell? _ _ h0
  have hb2 := World.block_lt_of_cell? _ _ h2
  simp only at hb0 hb2
  clear ht
  unfold TakesAt at HT
  generalize takesB cols row k = r at HT ⊢
  simp only [Nd.v]
  go_enter Tryz.func70, Tryz.ntmps70
  go_wp2_with (go_at_call 35; refine (HT.out _ (by repeat (first | exact Keep.refl _ | apply Keep.alloc | apply Keep.gro | apply Keep.drew | apply Keep.drewN))).mono ?_; rintro e w' ⟨rfl, hk⟩; (first | obtain ⟨p, rfl⟩ := Zone.gro_of_gro _ _ hk | obtain ⟨p, rfl⟩ := Zone.gro_of_below _ hk); clear hk)
  go_ret
  exact ⟨rfl, (by repeat (first | exact Keep.refl _ | apply Keep.alloc | apply Keep.gro | apply Keep.drew | apply Keep.drewN))⟩
theorem takes2_any (k : Nd) (b0 b2 b3 : Nat) (w : World) (h0 : w.cell? ⟨b0, 0, none⟩ = some (.slice A cols.length c)) (h2 : w.cell? ⟨b2, 0, none⟩ = some (.slice F row.length m))
    (h3 : w.cell? ⟨b3, 0, none⟩ = some (.func (.func 70) #[] #[.pointer (some ⟨b0, 0, none⟩), .pointer (some ⟨b2, 0, none⟩)])) (ht : TakesAt cols row A c F m k w) :
    Calls Tryz.prog 72 #[k.v, .pointer (some ⟨b3, 0, none⟩)] w fun e w' => e = .returned (.bool (!takesB cols row k)) ∧ Keep w w' := by
  have HT := Lib.hid ht
  have H0 := Lib.hid h0
  have H2 := Lib.hid h2
  have eg1 : ∀ args w, (callFunc 70 args).run Tryz.prog w = .ok (.enter 70 args) w := enters_of Tryz.func70 (by kernel_rfl) rfl
  have hb3 := World.block_lt_of_cell? _ _ h3
  simp only at hb3
  clear ht h0 h2
  have H1 := Lib.hid (fun W (hW : Keep w W) => takes1_any (A := A) (c := c) (cols := cols) k b0 b2 W ((hW.cell (p := ⟨b0, 0, none⟩) (World.block_lt_of_cell? _ _ H0.out)).trans H0.out) ((hW.cell (p := ⟨b2, 0, none⟩) (World.block_lt_of_cell? _ _ H2.out)).trans H2.out) (fun V hV => HT.out V (hW.trans hV)))
  clear HT
  generalize takesB cols row k = r at H1 ⊢
  simp only [Nd.v] at H1 ⊢
  go_enter Tryz.func72, Tryz.ntmps72
  go_wp2_with (go_at_fn 70; refine Zone.hold ?_)
  refine Zone.unhold ?_
  refine (H1.out _ (by repeat (first | exact Keep.refl _ | apply Keep.alloc | apply Keep.gro | apply Keep.drew | apply Keep.drewN))).mono ?_
  rintro e w' ⟨rfl, hk⟩
  obtain ⟨p, rfl⟩ := Zone.gro_of_below _ hk
  clear hk
  go_wp2
  go_ret
  exact ⟨rfl, (by repeat (first | exact Keep.refl _ | apply Keep.alloc | apply Keep.gro | apply Keep.drew | apply Keep.drewN))⟩
theorem takes3_any (cc : Col) (n : ByteArray) (b : Nat) (w : World) (h : w.cell? ⟨b, 2, none⟩ = some (.string n)) (hb : b < w.heap.size) : Calls Tryz.prog 74 #[cc.v, .pointer (some ⟨b, 0, none⟩)] w fun e w' => e = .returned (.bool (isCol n cc)) ∧ Keep w w' := by
  obtain ⟨k', n'⟩ := cc
  simp only [Col.v]
  go_enter Tryz.func74, Tryz.ntmps74
  go_wp2
  go_ret
  exact ⟨rfl, (by repeat (first | exact Keep.refl _ | apply Keep.alloc | apply Keep.gro | apply Keep.drew | apply Keep.drewN))⟩
set_option maxHeartbeats 4000000 in
theorem takes_any (w0 : World) (b : Nat) (n : Nd) (hn : Nd.In w0 b n) : ∀ (w : World), Keep w0 w → Sl w 2 Col.cells A c cols → Sl w 3 Val.cells F m row →
    Calls Tryz.prog 35 #[.slice A cols.length c, n.v, .slice F row.length m] w fun e w' => e = .returned (.bool (takesB cols row n)) ∧ Keep w w' := by
  induction hn with
  | mk n hk hv hA hB hi ih =>
  intro w hK0 hc hr
  have HS := Lib.hid (hk.keep hK0)
  have HV := Lib.hid (hv.keep hK0)
  have HC := Lib.hid hc
  have HR := Lib.hid hr
  have hkl := hk.len
  have hvl := hv.len
  have hcl := hc.len
  have hrl := hr.len
  have IH := Lib.hid (show ∀ k ∈ n.kids, TakesAt cols row A c F m k w from fun k hk W hW => ih k hk W (hK0.trans hW) (hc.keep hW) (hr.keep hW))
  have eg1 : ∀ args w, (callFunc 70 args).run Tryz.prog w = .ok (.enter 70 args) w := enters_of Tryz.func70 (by kernel_rfl) rfl
  clear hk hv hA hB hi ih hc hr hK0
  obtain ⟨op, KA, kc, kids, col, cmp, VB, vd, vals⟩ := n
  simp only [Nd.v] at hkl hvl HS HV IH ⊢
  rw [takesB_eq]
  simp only
  by_cases h1 : op = 1
  · subst h1
    rw [if_pos rfl]
    go_enter Tryz.func35, Tryz.ntmps35
    go_wp2_with (go_at_call 71; refine Zone.hold ?_)
    refine Zone.unhold ?_
    refine (containsNd_any KA kc kids 72 #[.pointer (some ⟨w.heap.size + 1 + 1 + 1, 0, none⟩)] (fun k => !takesB cols row k) _ (enters_of Tryz.func72 (by kernel_rfl) rfl) (HS.out.keep (by repeat (first | exact Keep.refl _ | apply Keep.alloc | apply Keep.gro | apply Keep.drew | apply Keep.drewN | (refine Keep.setCell ?_ (by simp) _)))) (fun W k hk hW => takes2_any k w.heap.size (w.heap.size + 1 + 1) (w.heap.size + 1 + 1 + 1) W ((hW.cell (p := ⟨w.heap.size, 0, none⟩) (by simp [go_sem])).trans (by simp [go_sem])) ((hW.cell (p := ⟨w.heap.size + 1 + 1, 0, none⟩) (by simp [go_sem])).trans (by simp [go_sem])) ((hW.cell (p := ⟨w.heap.size + 1 + 1 + 1, 0, none⟩) (by simp [go_sem])).trans (by simp [go_sem])) (fun V hV => IH.out k hk V (Keep.trans (Keep.trans (by repeat (first | exact Keep.refl _ | apply Keep.alloc | apply Keep.gro | apply Keep.drew | apply Keep.drewN | (refine Keep.setCell ?_ (by simp) _))) hW) hV)))).mono ?_
    rintro e w' ⟨rfl, hk⟩
    have hk' := Keep.trans (show Keep w _ from (by repeat (first | exact Keep.refl _ | apply Keep.alloc | apply Keep.gro | apply Keep.drew | apply Keep.drewN | (refine Keep.setCell ?_ (by simp) _)))) hk
    clear hk
    go_wp2
    go_ret
    exact ⟨rfl, hk'⟩
  by_cases h2 : op = 2
  · subst h2
    rw [if_neg (by omega), if_pos rfl]
    clear h1
    go_enter Tryz.func35, Tryz.ntmps35
    go_wp2_with (go_at_call 71; refine Zone.hold ?_)
    refine Zone.unhold ?_
    refine (containsNd_any KA kc kids 70 #[.pointer (some ⟨w.heap.size, 0, none⟩), .pointer (some ⟨w.heap.size + 1 + 1, 0, none⟩)] (takesB cols row) _ (enters_of Tryz.func70 (by kernel_rfl) rfl) (HS.out.keep (by repeat (first | exact Keep.refl _ | apply Keep.alloc | apply Keep.gro | apply Keep.drew | apply Keep.drewN | (refine Keep.setCell ?_ (by simp) _)))) (fun W k hk hW => takes1_any k w.heap.size (w.heap.size + 1 + 1) W ((hW.cell (p := ⟨w.heap.size, 0, none⟩) (by simp [go_sem])).trans (by simp [go_sem])) ((hW.cell (p := ⟨w.heap.size + 1 + 1, 0, none⟩) (by simp [go_sem])).trans (by simp [go_sem])) (fun V hV => IH.out k hk V (Keep.trans (Keep.trans (by repeat (first | exact Keep.refl _ | apply Keep.alloc | apply Keep.gro | apply Keep.drew | apply Keep.drewN | (refine Keep.setCell ?_ (by simp) _))) hW) hV)))).mono ?_
    rintro e w' ⟨rfl, hk⟩
    have hk' := Keep.trans (show Keep w _ from (by repeat (first | exact Keep.refl _ | apply Keep.alloc | apply Keep.gro | apply Keep.drew | apply Keep.drewN | (refine Keep.setCell ?_ (by simp) _)))) hk
    clear hk
    go_wp2
    go_ret
    exact ⟨rfl, hk'⟩
  by_cases h3 : op = 3
  · subst h3
    rw [if_neg (by omega), if_neg (by omega), if_pos rfl]
    clear h1 h2
    go_enter Tryz.func35, Tryz.ntmps35
    go_wp2_with (go_at_call 71; refine Zone.hold ?_)
    refine Zone.unhold ?_
    refine (containsNd_any KA kc kids 70 #[.pointer (some ⟨w.heap.size, 0, none⟩), .pointer (some ⟨w.heap.size + 1 + 1, 0, none⟩)] (takesB cols row) _ (enters_of Tryz.func70 (by kernel_rfl) rfl) (HS.out.keep (by repeat (first | exact Keep.refl _ | apply Keep.alloc | apply Keep.gro | apply Keep.drew | apply Keep.drewN | (refine Keep.setCell ?_ (by simp) _)))) (fun W k hk hW => takes1_any k w.heap.size (w.heap.size + 1 + 1) W ((hW.cell (p := ⟨w.heap.size, 0, none⟩) (by simp [go_sem])).trans (by simp [go_sem])) ((hW.cell (p := ⟨w.heap.size + 1 + 1, 0, none⟩) (by simp [go_sem])).trans (by simp [go_sem])) (fun V hV => IH.out k hk V (Keep.trans (Keep.trans (by repeat (first | exact Keep.refl _ | apply Keep.alloc | apply Keep.gro | apply Keep.drew | apply Keep.drewN | (refine Keep.setCell ?_ (by simp) _))) hW) hV)))).mono ?_
    rintro e w' ⟨rfl, hk⟩
    have hk' := Keep.trans (show Keep w _ from (by repeat (first | exact Keep.refl _ | apply Keep.alloc | apply Keep.gro | apply Keep.drew | apply Keep.drewN | (refine Keep.setCell ?_ (by simp) _)))) hk
    clear hk
    go_wp2
    go_ret
    exact ⟨rfl, hk'⟩
  have d1 : (op == 1) = false := by simpa using h1
  have d2 : (op == 2) = false := by simpa using h2
  have d3 : (op == 3) = false := by simpa using h3
  rw [if_neg h1, if_neg h2, if_neg h3]
  clear h1 h2 h3 IH HS
  by_cases h4 : op = 4
  · subst h4
    rw [if_pos rfl]
    unfold leafB
    clear d1 d2 d3
    generalize hz0 : idxP (isCol col) cols 0 = z
    have HZ := Lib.hid hz0
    clear hz0
    by_cases hz : 0 ≤ z
    · obtain ⟨i, rfl⟩ : ∃ i : Nat, z = i := ⟨z.toNat, by omega⟩
      have dz : decide (0 ≤ (i : Int)) = true := by simp
      by_cases hlt : i < row.length
      · have dl : decide ((i : Int) < (row.length : Int)) = true := by simp [hlt]
        have dl2 : decide (i < row.length) = true := by simp [hlt]
        rw [dl, dz, Int.toNat_natCast, show row.getD i default = row[i] from by simp [hlt], Bool.true_and, Bool.true_and]
        obtain ⟨g, off, rfl, hg, y0, y1, y2⟩ := sl_val HR.out i hlt
        have HQ := Lib.hid (fun W (hW : Keep w W) => comp_any row[i] cmp VB vd vals W (HV.out.keep hW))
        clear hz
        go_enter Tryz.func35, Tryz.ntmps35
        go_wp2_with (go_at_call 73; refine Zone.hold ?_)
        refine Zone.unhold ?_
        refine (indexCol_any A c cols 74 #[.pointer (some ⟨w.heap.size + 1, 0, none⟩)] (isCol col) _ (enters_of Tryz.func74 (by kernel_rfl) rfl) (HC.out.keep (by repeat (first | exact Keep.refl _ | apply Keep.alloc | apply Keep.gro | apply Keep.drew | apply Keep.drewN | (refine Keep.setCell ?_ (by simp) _)))) (fun W x hW => takes3_any x col (w.heap.size + 1) W ((hW.cell (p := ⟨w.heap.size + 1, 2, none⟩) (by simp [go_sem])).trans (by simp [go_sem])) (Nat.lt_of_lt_of_le (by simp [go_sem]) hW.size))).mono ?_
        rw [HZ.out]
        rintro e w' ⟨rfl, hk⟩
        obtain ⟨p, rfl⟩ := gro_of_below _ hk
        clear hk HC HV HR eg1 HZ
        go_wp2
        first | refine Zone.wp_region_all_gro (by kernel_rfl) (by kernel_rfl) ?_ | refine Zone.wp_region_all (by kernel_rfl) (by kernel_rfl) ?_
        repeat
          refine Zone.wpZ_step (fun K hK => ?_)
          go_simp
          first
          | (refine hK _ _ ?_; clear hK K)
          | (apply Exists.intro
             refine ⟨fun p => ?_, hK _ _ ?_⟩
             ((go_at_call 75; exact Zone.zc (HQ.out _ (by repeat (first | exact Keep.refl _ | apply Keep.alloc | apply Keep.gro | apply Keep.drew | apply Keep.drewN | (refine Keep.setCell ?_ (by simp) _))))))
             clear hK K)
        refine Zone.wpZ_nil ?_
        intro p
        simp only [Zone.fill]
        go_wp2
        go_ret
        exact ⟨rfl, (by repeat (first | exact Keep.refl _ | apply Keep.alloc | apply Keep.gro | apply Keep.drew | apply Keep.drewN | (refine Keep.setCell ?_ (by simp) _)))⟩
      · have dl : decide ((i : Int) < (row.length : Int)) = false := by simp; omega
        have dl2 : decide (i < row.length) = false := by simp; omega
        rw [dl, dz, Bool.true_and, Bool.false_and]
        clear hz
        go_enter Tryz.func35, Tryz.ntmps35
        go_wp2_with (go_at_call 73; refine Zone.hold ?_)
        refine Zone.unhold ?_
        refine (indexCol_any A c cols 74 #[.pointer (some ⟨w.heap.size + 1, 0, none⟩)] (isCol col) _ (enters_of Tryz.func74 (by kernel_rfl) rfl) (HC.out.keep (by repeat (first | exact Keep.refl _ | apply Keep.alloc | apply Keep.gro | apply Keep.drew | apply Keep.drewN | (refine Keep.setCell ?_ (by simp) _)))) (fun W x hW => takes3_any x col (w.heap.size + 1) W ((hW.cell (p := ⟨w.heap.size + 1, 2, none⟩) (by simp [go_sem])).trans (by simp [go_sem])) (Nat.lt_of_lt_of_le (by simp [go_sem]) hW.size))).mono ?_
        rw [HZ.out]
        rintro e w' ⟨rfl, hk⟩
        obtain ⟨p, rfl⟩ := gro_of_below _ hk
        clear hk HC HV HR eg1 HZ
        go_wp2
        first | refine Zone.wp_region_all_gro (by kernel_rfl) (by kernel_rfl) ?_ | refine Zone.wp_region_all (by kernel_rfl) (by kernel_rfl) ?_
        repeat
          refine Zone.wpZ_step (fun K hK => ?_)
          go_simp
          first
          | (refine hK _ _ ?_; clear hK K)
          | (apply Exists.intro
             refine ⟨fun p => ?_, hK _ _ ?_⟩
             (fail)
             clear hK K)
        refine Zone.wpZ_nil ?_
        intro p
        simp only [Zone.fill]
        go_wp2
        go_ret
        exact ⟨rfl, (by repeat (first | exact Keep.refl _ | apply Keep.alloc | apply Keep.gro | apply Keep.drew | apply Keep.drewN | (refine Keep.setCell ?_ (by simp) _)))⟩
    · have dz : decide (0 ≤ z) = false := by simp; omega
      rw [dz, Bool.false_and]
      go_enter Tryz.func35, Tryz.ntmps35
      go_wp2_with (go_at_call 73; refine Zone.hold ?_)
      refine Zone.unhold ?_
      refine (indexCol_any A c cols 74 #[.pointer (some ⟨w.heap.size + 1, 0, none⟩)] (isCol col) _ (enters_of Tryz.func74 (by kernel_rfl) rfl) (HC.out.keep (by repeat (first | exact Keep.refl _ | apply Keep.alloc | apply Keep.gro | apply Keep.drew | apply Keep.drewN | (refine Keep.setCell ?_ (by simp) _)))) (fun W x hW => takes3_any x col (w.heap.size + 1) W ((hW.cell (p := ⟨w.heap.size + 1, 2, none⟩) (by simp [go_sem])).trans (by simp [go_sem])) (Nat.lt_of_lt_of_le (by simp [go_sem]) hW.size))).mono ?_
      rw [HZ.out]
      rintro e w' ⟨rfl, hk⟩
      obtain ⟨p, rfl⟩ := gro_of_below _ hk
      clear hk HC HV HR eg1 HZ
      go_wp2
      first | refine Zone.wp_region_all_gro (by kernel_rfl) (by kernel_rfl) ?_ | refine Zone.wp_region_all (by kernel_rfl) (by kernel_rfl) ?_
      repeat
        refine Zone.wpZ_step (fun K hK => ?_)
        go_simp
        first
        | (refine hK _ _ ?_; clear hK K)
        | (apply Exists.intro
           refine ⟨fun p => ?_, hK _ _ ?_⟩
           (fail)
           clear hK K)
      refine Zone.wpZ_nil ?_
      intro p
      simp only [Zone.fill]
      go_wp2
      go_ret
      exact ⟨rfl, (by repeat (first | exact Keep.refl _ | apply Keep.alloc | apply Keep.gro | apply Keep.drew | apply Keep.drewN | (refine Keep.setCell ?_ (by simp) _)))⟩
  · have d4 : (op == 4) = false := by simpa using h4
    rw [if_neg h4]
    clear h4
    go_enter Tryz.func35, Tryz.ntmps35
    go_wp2
    go_ret
    exact ⟨rfl, (by repeat (first | exact Keep.refl _ | apply Keep.alloc | apply Keep.gro | apply Keep.drew | apply Keep.drewN | (refine Keep.setCell ?_ (by simp) _)))⟩
end
end Go.Proofs.YthigflnfccajoaaGreat
