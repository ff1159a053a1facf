
/- Whether outputs pass a test: query.Passes. -/
import Derived.WalkKit
import Derived.Lib.Hide
import Derived.WalkSpells
import Derived.WalkLawsBesides
import Derived.BigQuiet
import Derived.Shelf.Abstract
import Derived.Laws.EntriesVeiled
import Derived.Test.YthigflnfccajoaaQtakes
import Derived.Test.YthigflnfccajoaaQtest
namespace Go.Proofs.Ythigflnfccajoaa
open Go.RowKit Go.Zone Go.Shelf
attribute [local go_sem] Zone.zone Zone.stepZ Zone.fill Zone.lookFs Zone.goes Zone.goesUpon Zone.dropFs Zone.cell_gro Zone.frozen_gro Zone.size_gro Zone.lt_add Zone.drew_gro Zone.tape_gro Zone.keep_refl
attribute [local go_sem] Zone.lt_add2 Zone.lt_add3 Zone.lt_add4 Zone.lt_add5 Zone.lt_add6 Zone.lt_add7 Zone.lt_add8 Zone.lt_add9 Zone.lt_add10 Zone.lt_add11 Zone.lt_add12
def passL (outs : List Val) (out : Int) (cmp : Int) (v : Val) : Bool := decide (0 ≤ out) && (decide (out < outs.length) && compB (outs.getD out.toNat default) cmp [v])
/-- Whether outputs pass a test. -/
def passB (outs : List Val) (n : Ts) : Bool :=
  if n.op = 1 then !(n.kids.attach.any fun k => !passB outs k.1)
  else if n.op = 2 then n.kids.attach.any fun k => passB outs k.1
  else if n.op = 3 then !(n.kids.attach.any fun k => passB outs k.1)
  else if n.op = 4 then passL outs n.out n.cmp n.v else true
termination_by SizeOf.sizeOf n
decreasing_by all_goals exact kidT_lt k.2
theorem passB_eq (outs : List Val) (n : Ts) : passB outs n =
    if n.op = 1 then !(n.kids.any fun k => !passB outs k) else if n.op = 2 then n.kids.any (passB outs) else if n.op = 3 then !(n.kids.any (passB outs)) else if n.op = 4 then passL outs n.out n.cmp n.v else true := by
  rw [passB]
  rw [any_att n.kids (fun k => !passB outs k), any_att n.kids (passB outs)]
set_option maxHeartbeats 400000 in
theorem indexTs_any (A : Option Addr) (c : Nat) (xs : List Ts) (g : Nat) (lb : Array Value) (p : Ts → Bool) (w : World) (eg : ∀ args w, (callFunc g args).run Try.prog w = .ok (.enter g args) w)
    (h : Sl w 7 Ts.cells A c xs) (hp : ∀ (W : World) (x : Ts), x ∈ xs → Keep w W → Calls Try.prog g (#[x.val] ++ lb) W fun e w' => e = .returned (.bool (p x)) ∧ Keep W w') :
    Calls Try.prog 67 #[.slice A xs.length c, .func (.func g) #[] lb] w fun e w' => e = .returned (.int .i64 (idxP p xs 0)) ∧ Keep w w' := by
  have hl := sl_len h
  have HP := Lib.hid hp; clear hp
  go_enter Try.func67, Try.ntmps67
  go_wp2
  go_loopw [5, 8] (fun _ i wr => ∃ k : Nat, k ≤ xs.length ∧ i = .int .i64 k ∧ Hid (Keep w wr) ∧ Hid (∀ j, (h : j < xs.length) → j < k → p xs[j] = false)) (fun _ i _ => xs.length - (intOf i).toNat)
  case atStart => exact ⟨0, Nat.zero_le _, rfl, Keep.refl _, fun j _ hj => absurd hj (Nat.not_lt_zero _)⟩
  case round =>
    obtain ⟨k, hk, rfl, HK, HR⟩ := hrel
    by_cases hlt : k < xs.length
    · have hcall := HP.out wr xs[k] (List.getElem_mem hlt) HK.out
      obtain ⟨b, off, rfl, hb, h0, h1, h2, h3, h4, h5, h6⟩ := sl_ts (h.keep HK.out) k hlt
      clear h
      by_cases hq : p xs[k] = true
      · rw [hq] at hcall
        have HC := Lib.hid hcall
        have HQ := Lib.hid hq
        clear hcall hq
        go_wp2_with (go_at_fn g; refine HC.out.mono ?_; rintro e w' ⟨rfl, hk'⟩)
        go_ret
        exact ⟨ret_int (by rw [idxP_at p xs 0 k HR.out, List.drop_eq_getElem_cons hlt]; simp [idxP, HQ.out]), HK.out.trans hk'⟩
      · have hq' : p xs[k] = false := by simpa using hq
        rw [hq'] at hcall
        have HC := Lib.hid hcall
        have HQ := Lib.hid hq'
        clear hcall hq hq'
        go_wp2_with (go_at_fn g; refine HC.out.mono ?_; rintro e w' ⟨rfl, hk'⟩)
        go_roundw
        case rel => exact ⟨k + 1, by omega, by go_num, HK.out.trans hk', fun j hj hjk => by
          by_cases e : j = k
          · subst e; exact HQ.out
          · exact HR.out j hj (by omega)⟩
        case measure => simp [intOf]; omega
    · go_wp2
      go_ret
      exact ⟨ret_int (by rw [idxP_at p xs 0 xs.length fun j hj _ => HR.out j hj (by omega)]; simp [idxP]), HK.out⟩
theorem containsTs_any (A : Option Addr) (c : Nat) (xs : List Ts) (g : Nat) (lb : Array Value) (p : Ts → Bool) (w : World) (eg : ∀ args w, (callFunc g args).run Try.prog w = .ok (.enter g args) w)
    (h : Sl w 7 Ts.cells A c xs) (hp : ∀ (W : World) (x : Ts), x ∈ xs → Keep w W → Calls Try.prog g (#[x.val] ++ lb) W fun e w' => e = .returned (.bool (p x)) ∧ Keep W w') :
    Calls Try.prog 32 #[.slice A xs.length c, .func (.func g) #[] lb] w fun e w' => e = .returned (.bool (xs.any p)) ∧ Keep w w' := by
  have HP := Lib.hid hp; clear hp
  have HH := Lib.hid h; clear h
  rw [← idxP_any p xs 0]
  go_enter Try.func32, Try.ntmps32
  go_wp2_with (go_at_call 67; refine (indexTs_any A c xs g lb p _ eg HH.out HP.out).mono ?_; rintro e w' ⟨rfl, hk⟩; (first | obtain ⟨p, rfl⟩ := Zone.gro_of_gro _ _ hk | obtain ⟨p, rfl⟩ := Zone.gro_of_below _ hk); clear hk)
  go_ret
  exact ⟨rfl, (by repeat (first | exact Keep.refl _ | apply Keep.alloc | apply Keep.gro | apply Keep.drew | apply Keep.drewN))⟩
def PassAt (outs : List Val) (F : Option Addr) (m : Nat) (k : Ts) (w : World) : Prop :=
  ∀ W, Keep w W → Calls Try.prog 8 #[k.val, .slice F outs.length m] W fun e w' => e = .returned (.bool (passB outs k)) ∧ Keep W w'
section
variable {F : Option Addr} {m : Nat} {outs : List Val}
theorem pass1_any (k : Ts) (b0 : Nat) (w : World) (h0 : w.cell? ⟨b0, 0, none⟩ = some (.slice F outs.length m)) (ht : PassAt outs F m k w) :
    Calls Try.prog 31 #[k.val, .pointer (some ⟨b0, 0, none⟩)] w fun e w' => e = .returned (.bool (passB outs k)) ∧ Keep w w' := by
  have HT := Lib.hid ht
  have hb0 := World.block_lt_of_cell? _ _ h0
  simp only at hb0
  clear ht
  unfold PassAt at HT
  generalize passB outs k = r at HT ⊢
  simp only [Ts.val]
  go_enter Try.func31, Try.ntmps31
  go_wp2_with (go_at_call 8; refine (HT.out _ (by repeat (first | exact Keep.refl _ | apply Keep.alloc | apply Keep.gro | apply Keep.drew | apply Keep.drewN))).mono ?_; rintro e w' ⟨rfl, hk⟩; (first | obtain ⟨p, rfl⟩ := Zone.gro_of_gro _ _ hk | obtain ⟨p, rfl⟩ := Zone.gro_of_below _ hk); clear hk)
  go_ret
  exact ⟨rfl, (by repeat (first | exact Keep.refl _ | apply Keep.alloc | apply Keep.gro | apply Keep.drew | apply Keep.drewN))⟩
theorem pass2_any (k : Ts) (b0 b3 : Nat) (w : World) (h0 : w.cell? ⟨b0, 0, none⟩ = some (.slice F outs.length m))
    (h3 : w.cell? ⟨b3, 0, none⟩ = some (.func (.func 31) #[] #[.pointer (some ⟨b0, 0, none⟩)])) (ht : PassAt outs F m k w) :
    Calls Try.prog 33 #[k.val, .pointer (some ⟨b3, 0, none⟩)] w fun e w' => e = .returned (.bool (!passB outs k)) ∧ Keep w w' := by
  have HT := Lib.hid ht
  have H0 := Lib.hid h0
  have eg1 : ∀ args w, (callFunc 31 args).run Try.prog w = .ok (.enter 31 args) w := enters_of Try.func31 (by kernel_rfl) rfl
  have hb3 := World.block_lt_of_cell? _ _ h3
  simp only at hb3
  clear ht h0
  have H1 := Lib.hid (fun W (hW : Keep w W) => pass1_any k b0 W ((hW.cell (p := ⟨b0, 0, none⟩) (World.block_lt_of_cell? _ _ H0.out)).trans H0.out) (fun V hV => HT.out V (hW.trans hV)))
  clear HT
  generalize passB outs k = r at H1 ⊢
  simp only [Ts.val] at H1 ⊢
  go_enter Try.func33, Try.ntmps33
  go_wp2_with (go_at_fn 31; refine Zone.hold ?_)
  refine Zone.unhold ?_
  refine (H1.out _ (by repeat (first | exact Keep.refl _ | apply Keep.alloc | apply Keep.gro | apply Keep.drew | apply Keep.drewN))).mono ?_
  rintro e w' ⟨rfl, hk⟩
  obtain ⟨p, rfl⟩ := Zone.gro_of_below _ hk
  clear hk
  go_wp2
  go_ret
  exact ⟨rfl, (by repeat (first | exact Keep.refl _ | apply Keep.alloc | apply Keep.gro | apply Keep.drew | apply Keep.drewN))⟩
set_option maxRecDepth 100000 in
set_option maxHeartbeats 4000000 in
theorem pass_any (w0 : World) (b : Nat) (n : Ts) (hn : Ts.In w0 b n) : ∀ (w : World), Keep w0 w → Sl w 3 Val.cells F m outs →
    Calls Try.prog 8 #[n.val, .slice F outs.length m] w fun e w' => e = .returned (.bool (passB outs n)) ∧ Keep w w' := by
  induction hn with
  | mk n hk hA hi ih =>
  intro w hK0 hr
  have HS := Lib.hid (hk.keep hK0)
  have HR := Lib.hid hr
  have hkl := hk.len
  have hrl := hr.len
  have IH := Lib.hid (show ∀ k ∈ n.kids, PassAt outs F m k w from fun k hk W hW => ih k hk W (hK0.trans hW) (hr.keep hW))
  have eg1 : ∀ args w, (callFunc 31 args).run Try.prog w = .ok (.enter 31 args) w := enters_of Try.func31 (by kernel_rfl) rfl
  clear hk hA hi ih hr hK0
  obtain ⟨op, KA, kc, kids, out, cmp, ⟨vk, vn, vs⟩⟩ := n
  simp only [Ts.val] at hkl HS IH ⊢
  rw [passB_eq]
  simp only
  by_cases h1 : op = 1
  · subst h1
    rw [if_pos rfl]
    go_enter Try.func8, Try.ntmps8
    go_wp2_with (go_at_call 32; refine Zone.hold ?_)
    refine Zone.unhold ?_
    refine (containsTs_any KA kc kids 33 #[.pointer (some ⟨w.heap.size + 1 + 1, 0, none⟩)] (fun k => !passB outs k) _ (enters_of Try.func33 (by kernel_rfl) rfl) (HS.out.keep (by repeat (first | exact Keep.refl _ | apply Keep.alloc | apply Keep.gro | apply Keep.drew | apply Keep.drewN | (refine Keep.setCell ?_ (by simp) _)))) (fun W k hk hW => pass2_any k (w.heap.size + 1) (w.heap.size + 1 + 1) W ((hW.cell (p := ⟨w.heap.size + 1, 0, none⟩) (by simp [go_sem])).trans (by simp [go_sem])) ((hW.cell (p := ⟨w.heap.size + 1 + 1, 0, none⟩) (by simp [go_sem])).trans (by simp [go_sem])) (fun V hV => IH.out k hk V (Keep.trans (Keep.trans (by repeat (first | exact Keep.refl _ | apply Keep.alloc | apply Keep.gro | apply Keep.drew | apply Keep.drewN | (refine Keep.setCell ?_ (by simp) _))) hW) hV)))).mono ?_
    rintro e w' ⟨rfl, hk⟩
    have hk' := Keep.trans (show Keep w _ from (by repeat (first | exact Keep.refl _ | apply Keep.alloc | apply Keep.gro | apply Keep.drew | apply Keep.drewN | (refine Keep.setCell ?_ (by simp) _)))) hk
    clear hk
    go_wp2
    go_ret
    exact ⟨rfl, hk'⟩
  by_cases h2 : op = 2
  · subst h2
    rw [if_neg (by omega), if_pos rfl]
    clear h1
    go_enter Try.func8, Try.ntmps8
    go_wp2_with (go_at_call 32; refine Zone.hold ?_)
    refine Zone.unhold ?_
    refine (containsTs_any KA kc kids 31 #[.pointer (some ⟨w.heap.size + 1, 0, none⟩)] (passB outs) _ (enters_of Try.func31 (by kernel_rfl) rfl) (HS.out.keep (by repeat (first | exact Keep.refl _ | apply Keep.alloc | apply Keep.gro | apply Keep.drew | apply Keep.drewN | (refine Keep.setCell ?_ (by simp) _)))) (fun W k hk hW => pass1_any k (w.heap.size + 1) W ((hW.cell (p := ⟨w.heap.size + 1, 0, none⟩) (by simp [go_sem])).trans (by simp [go_sem])) (fun V hV => IH.out k hk V (Keep.trans (Keep.trans (by repeat (first | exact Keep.refl _ | apply Keep.alloc | apply Keep.gro | apply Keep.drew | apply Keep.drewN | (refine Keep.setCell ?_ (by simp) _))) hW) hV)))).mono ?_
    rintro e w' ⟨rfl, hk⟩
    have hk' := Keep.trans (show Keep w _ from (by repeat (first | exact Keep.refl _ | apply Keep.alloc | apply Keep.gro | apply Keep.drew | apply Keep.drewN | (refine Keep.setCell ?_ (by simp) _)))) hk
    clear hk
    go_wp2
    go_ret
    exact ⟨rfl, hk'⟩
  by_cases h3 : op = 3
  · subst h3
    rw [if_neg (by omega), if_neg (by omega), if_pos rfl]
    clear h1 h2
    go_enter Try.func8, Try.ntmps8
    go_wp2_with (go_at_call 32; refine Zone.hold ?_)
    refine Zone.unhold ?_
    refine (containsTs_any KA kc kids 31 #[.pointer (some ⟨w.heap.size + 1, 0, none⟩)] (passB outs) _ (enters_of Try.func31 (by kernel_rfl) rfl) (HS.out.keep (by repeat (first | exact Keep.refl _ | apply Keep.alloc | apply Keep.gro | apply Keep.drew | apply Keep.drewN | (refine Keep.setCell ?_ (by simp) _)))) (fun W k hk hW => pass1_any k (w.heap.size + 1) W ((hW.cell (p := ⟨w.heap.size + 1, 0, none⟩) (by simp [go_sem])).trans (by simp [go_sem])) (fun V hV => IH.out k hk V (Keep.trans (Keep.trans (by repeat (first | exact Keep.refl _ | apply Keep.alloc | apply Keep.gro | apply Keep.drew | apply Keep.drewN | (refine Keep.setCell ?_ (by simp) _))) hW) hV)))).mono ?_
    rintro e w' ⟨rfl, hk⟩
    have hk' := Keep.trans (show Keep w _ from (by repeat (first | exact Keep.refl _ | apply Keep.alloc | apply Keep.gro | apply Keep.drew | apply Keep.drewN | (refine Keep.setCell ?_ (by simp) _)))) hk
    clear hk
    go_wp2
    go_ret
    exact ⟨rfl, hk'⟩
  have d1 : (op == 1) = false := by simpa using h1
  have d2 : (op == 2) = false := by simpa using h2
  have d3 : (op == 3) = false := by simpa using h3
  rw [if_neg h1, if_neg h2, if_neg h3]
  clear h1 h2 h3 IH HS
  by_cases h4 : op = 4
  · subst h4
    rw [if_pos rfl]
    unfold passL
    clear d1 d2 d3
    by_cases hz : 0 ≤ out
    · obtain ⟨i, rfl⟩ : ∃ i : Nat, out = i := ⟨out.toNat, by omega⟩
      have dz : decide (0 ≤ (i : Int)) = true := by simp
      by_cases hlt : i < outs.length
      · have dl : decide ((i : Int) < (outs.length : Int)) = true := by simp [hlt]
        have dl2 : decide (i < outs.length) = true := by simp [hlt]
        rw [dl, dz, Int.toNat_natCast, show outs.getD i default = outs[i] from by simp [hlt], Bool.true_and, Bool.true_and]
        obtain ⟨g, off, rfl, hg, y0, y1, y2⟩ := sl_val HR.out i hlt
        have HQ := Lib.hid (fun A c W (hs : Sl W 3 Val.cells A c [⟨vk, vn, vs⟩]) => comp_any outs[i] cmp A c [⟨vk, vn, vs⟩] W hs)
        generalize compB outs[i] cmp [⟨vk, vn, vs⟩] = r at HQ ⊢
        clear hz HR eg1
        go_enter Try.func8, Try.ntmps8
        go_wp2
        first | refine Zone.wp_region_all_gro (by kernel_rfl) (by kernel_rfl) ?_ | refine Zone.wp_region_all (by kernel_rfl) (by kernel_rfl) ?_
        iterate 20
          refine Zone.wpZ_step (fun K hK => ?_)
          go_simp
          (refine hK _ _ ?_; clear hK K)
        refine Zone.wpZ_free 51 (fun u W => ∃ g, u = .slice (some ⟨g, 0, none⟩) 1 1 ∧ Sl W 3 Val.cells (some ⟨g, 0, none⟩) 1 [(⟨vk, vn, vs⟩ : Val)]) rfl (fun _ W W' hk ⟨g, h1, h2⟩ => ⟨g, h1, h2.keep hk⟩) ?_ ?_
        · intro p
          simp only [Zone.fill, Zone.lookFs, List.filter_nil]
          go_simp
          exact ⟨sl_one (by simp [go_sem]) (by simp [go_sem]) (by simp [go_sem]), Keep.alloc (Keep.refl _) _⟩
        refine Zone.wpZ_step (fun K hK => ?_)
        refine Zone.zone_free1 (.bool r) (d := 51) (by rfl) (fun p u hu => ?_) (hK _ _ ?_)
        · obtain ⟨g5, rfl, hs5⟩ := hu
          go_simp
          go_at_call 30
          exact Zone.zc (HQ.out _ _ _ hs5)
        clear hK K
        refine Zone.wpZ_step (fun K hK => ?_)
        unfold Zone.zone Zone.stepZ
        rw [Zone.lookFs_nil (by rfl)]
        go_simp
        (refine hK _ _ ?_; clear hK K)
        refine Zone.wpZ_step (fun K hK => ?_)
        unfold Zone.zone Zone.stepZ
        rw [Zone.lookFs_nil (by rfl)]
        go_simp
        (refine hK _ _ ?_; clear hK K)
        refine Zone.wpZ_nil ?_
        intro p
        simp only [Zone.fill]
        intro u hu
        clear hu
        go_wp2
        go_ret
        exact ⟨rfl, (by repeat (first | exact Keep.refl _ | apply Keep.alloc | apply Keep.gro | apply Keep.drew | apply Keep.drewN | (refine Keep.setCell ?_ (by simp) _)))⟩
      · have dl : decide ((i : Int) < (outs.length : Int)) = false := by simp; omega
        have dl2 : decide (i < outs.length) = false := by simp; omega
        rw [dl, dz, Bool.true_and, Bool.false_and]
        clear hz HR eg1
        go_enter Try.func8, Try.ntmps8
        go_wp2
        first | refine Zone.wp_region_all_gro (by kernel_rfl) (by kernel_rfl) ?_ | refine Zone.wp_region_all (by kernel_rfl) (by kernel_rfl) ?_
        repeat
          refine Zone.wpZ_step (fun K hK => ?_)
          go_simp
          first
          | (refine hK _ _ ?_; clear hK K)
          | (apply Exists.intro
             refine ⟨fun p => ?_, hK _ _ ?_⟩
             (fail)
             clear hK K)
        refine Zone.wpZ_nil ?_
        intro p
        simp only [Zone.fill]
        go_wp2
        go_ret
        exact ⟨rfl, (by repeat (first | exact Keep.refl _ | apply Keep.alloc | apply Keep.gro | apply Keep.drew | apply Keep.drewN | (refine Keep.setCell ?_ (by simp) _)))⟩
    · have dz : decide (0 ≤ out) = false := by simp; omega
      rw [dz, Bool.false_and]
      clear HR eg1 hz
      go_enter Try.func8, Try.ntmps8
      go_wp2
      first | refine Zone.wp_region_all_gro (by kernel_rfl) (by kernel_rfl) ?_ | refine Zone.wp_region_all (by kernel_rfl) (by kernel_rfl) ?_
      repeat
        refine Zone.wpZ_step (fun K hK => ?_)
        go_simp
        first
        | (refine hK _ _ ?_; clear hK K)
        | (apply Exists.intro
           refine ⟨fun p => ?_, hK _ _ ?_⟩
           (fail)
           clear hK K)
      refine Zone.wpZ_nil ?_
      intro p
      simp only [Zone.fill]
      go_wp2
      go_ret
      exact ⟨rfl, (by repeat (first | exact Keep.refl _ | apply Keep.alloc | apply Keep.gro | apply Keep.drew | apply Keep.drewN | (refine Keep.setCell ?_ (by simp) _)))⟩
  · have d4 : (op == 4) = false := by simpa using h4
    rw [if_neg h4]
    clear h4
    go_enter Try.func8, Try.ntmps8
    go_wp2
    go_ret
    exact ⟨rfl, (by repeat (first | exact Keep.refl _ | apply Keep.alloc | apply Keep.gro | apply Keep.drew | apply Keep.drewN | (refine Keep.setCell ?_ (by simp) _)))⟩
end
end Go.Proofs.Ythigflnfccajoaa
