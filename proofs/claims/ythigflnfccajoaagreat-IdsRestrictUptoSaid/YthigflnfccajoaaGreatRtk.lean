
/- The document's Takes: whether a filter takes a row. -/
import Derived.WalkKit
import Derived.Lib.Hide
import Derived.WalkSpells
import Derived.WalkLawsBesides
import Derived.BigQuiet
import Derived.Shelf.Abstract
import Derived.Test.YthigflnfccajoaaGreatRval
import Derived.Test.YthigflnfccajoaaGreatOrd
namespace Go.Proofs.YthigflnfccajoaaGreat
open Go.RowKit Go.Zone Go.Shelf
attribute [local go_sem] Zone.zone Zone.stepZ Zone.fill Zone.lookFs Zone.goes Zone.goesUpon Zone.dropFs Zone.cell_gro Zone.frozen_gro Zone.size_gro Zone.lt_add Zone.drew_gro Zone.tape_gro Zone.keep_refl
attribute [local go_sem] Zone.lt_add2 Zone.lt_add3 Zone.lt_add4 Zone.lt_add5 Zone.lt_add6 Zone.lt_add7 Zone.lt_add8 Zone.lt_add9 Zone.lt_add10 Zone.lt_add11 Zone.lt_add12
def rsoB (cmp c : Int) : Bool := if cmp = 1 then c == 0 else if cmp = 2 then c != 0 else if cmp = 3 then decide (c < 0) else if cmp = 4 then decide (c ≤ 0) else if cmp = 5 then decide (0 < c) else decide (0 ≤ c)
set_option maxHeartbeats 1000000 in
theorem rso_any (x : Val) (cmp : Int) (v : Val) (w : World) (hx : x.s.size ≤ maxLen) (hv : v.s.size ≤ maxLen) :
    Calls Tryz.prog 78 #[x.v, .int .u8 cmp, v.v] w fun e w' => e = .returned (.bool (rsoB cmp (rcmpV x v))) ∧ Keep w w' := by
  have HC := Lib.hid (fun W => rcompare_any x v W hx hv)
  obtain ⟨c, hc⟩ : ∃ c, rcmpV x v = c := ⟨_, rfl⟩
  rw [hc] at HC ⊢
  clear hc hx hv
  obtain ⟨k, n, s⟩ := x
  obtain ⟨k', n', s'⟩ := v
  simp only [Val.v] at HC ⊢
  unfold rsoB
  by_cases h1 : cmp = 1
  · subst h1
    go_enter Tryz.func78, Tryz.ntmps78
    go_wp2_with (go_at_call 101; refine (HC.out _).mono ?_; rintro e w' ⟨rfl, hk⟩; (first | obtain ⟨p, rfl⟩ := Zone.gro_of_gro _ _ hk | obtain ⟨p, rfl⟩ := Zone.gro_of_below _ hk); clear hk)
    go_ret
    exact ⟨by simp, (by repeat (first | exact Keep.refl _ | apply Keep.alloc | apply Keep.gro | apply Keep.drew | apply Keep.drewN))⟩
  · have e1 : (cmp == 1) = false := by simpa using h1
    by_cases h2 : cmp = 2
    · subst h2
      go_enter Tryz.func78, Tryz.ntmps78
      go_wp2_with (go_at_call 101; refine (HC.out _).mono ?_; rintro e w' ⟨rfl, hk⟩; (first | obtain ⟨p, rfl⟩ := Zone.gro_of_gro _ _ hk | obtain ⟨p, rfl⟩ := Zone.gro_of_below _ hk); clear hk)
      go_ret
      exact ⟨by simp, (by repeat (first | exact Keep.refl _ | apply Keep.alloc | apply Keep.gro | apply Keep.drew | apply Keep.drewN))⟩
    · have e2 : (cmp == 2) = false := by simpa using h2
      by_cases h3 : cmp = 3
      · subst h3
        go_enter Tryz.func78, Tryz.ntmps78
        go_wp2_with (go_at_call 101; refine (HC.out _).mono ?_; rintro e w' ⟨rfl, hk⟩; (first | obtain ⟨p, rfl⟩ := Zone.gro_of_gro _ _ hk | obtain ⟨p, rfl⟩ := Zone.gro_of_below _ hk); clear hk)
        go_ret
        exact ⟨by simp, (by repeat (first | exact Keep.refl _ | apply Keep.alloc | apply Keep.gro | apply Keep.drew | apply Keep.drewN))⟩
      · have e3 : (cmp == 3) = false := by simpa using h3
        by_cases h4 : cmp = 4
        · subst h4
          go_enter Tryz.func78, Tryz.ntmps78
          go_wp2_with (go_at_call 101; refine (HC.out _).mono ?_; rintro e w' ⟨rfl, hk⟩; (first | obtain ⟨p, rfl⟩ := Zone.gro_of_gro _ _ hk | obtain ⟨p, rfl⟩ := Zone.gro_of_below _ hk); clear hk)
          go_ret
          exact ⟨by simp, (by repeat (first | exact Keep.refl _ | apply Keep.alloc | apply Keep.gro | apply Keep.drew | apply Keep.drewN))⟩
        · have e4 : (cmp == 4) = false := by simpa using h4
          by_cases h5 : cmp = 5
          · subst h5
            go_enter Tryz.func78, Tryz.ntmps78
            go_wp2_with (go_at_call 101; refine (HC.out _).mono ?_; rintro e w' ⟨rfl, hk⟩; (first | obtain ⟨p, rfl⟩ := Zone.gro_of_gro _ _ hk | obtain ⟨p, rfl⟩ := Zone.gro_of_below _ hk); clear hk)
            go_ret
            exact ⟨by simp, (by repeat (first | exact Keep.refl _ | apply Keep.alloc | apply Keep.gro | apply Keep.drew | apply Keep.drewN))⟩
          · have e5 : (cmp == 5) = false := by simpa using h5
            rw [if_neg h1, if_neg h2, if_neg h3, if_neg h4, if_neg h5]
            clear h1 h2 h3 h4 h5
            go_enter Tryz.func78, Tryz.ntmps78
            go_wp2_with (go_at_call 101; refine (HC.out _).mono ?_; rintro e w' ⟨rfl, hk⟩; (first | obtain ⟨p, rfl⟩ := Zone.gro_of_gro _ _ hk | obtain ⟨p, rfl⟩ := Zone.gro_of_below _ hk); clear hk)
            go_ret
            exact ⟨by simp, (by repeat (first | exact Keep.refl _ | apply Keep.alloc | apply Keep.gro | apply Keep.drew | apply Keep.drewN))⟩
def rleafB (cmp : Int) (vals : List Val) (x : Val) : Bool :=
  if cmp = 7 then vals.any fun v => rsoB 1 (rcmpV x v) else if cmp = 8 then rsoB 6 (rcmpV x (vals.getD 0 default)) && rsoB 4 (rcmpV x (vals.getD 1 default)) else rsoB cmp (rcmpV x (vals.getD 0 default))
set_option maxRecDepth 100000 in
set_option maxHeartbeats 2000000 in
theorem rlf_any (n : Nd) (x : Val) (w : World) (hv : Sl w 3 Val.cells n.B n.d n.vals) (hkl : n.kids.length ≤ 140737488355328) (hx : x.s.size ≤ maxLen) (hs : ∀ v ∈ n.vals, v.s.size ≤ maxLen) (hw : 0 ≤ manyF n.cmp → (n.vals.length : Int) = manyF n.cmp) (hm : manyF n.cmp ≠ -2) :
    Calls Tryz.prog 48 #[n.v, x.v] w fun e w' => e = .returned (.bool (rleafB n.cmp n.vals x)) ∧ Keep w w' := by
  have HV := Lib.hid hv
  have HSO := Lib.hid (fun (v : Val) (hv : v ∈ n.vals) cmp W => rso_any x cmp v W hx (hs v hv))
  have hvl := hv.len
  obtain ⟨op, KA, kc, kids, col, cmp, VB, vd, vals⟩ := n
  obtain ⟨k, xn, s⟩ := x
  simp only [Nd.v, Val.v] at hvl hkl HSO HV hw hm ⊢
  clear hv hs hx
  unfold rleafB
  by_cases h7 : cmp = 7
  · subst h7
    rw [if_pos rfl]
    obtain ⟨R, hR⟩ : ∃ R, (vals.any fun v => rsoB 1 (rcmpV ⟨k, xn, s⟩ v)) = R := ⟨_, rfl⟩
    rw [hR]
    have HR := Lib.hid hR
    clear hR hw hm
    go_enter Tryz.func48, Tryz.ntmps48
    go_wp2
    go_loopw [5] (fun i wr => ∃ m : Nat, m ≤ vals.length ∧ i = .int .i64 m ∧ Hid (∀ j, (h : j < vals.length) → j < m → rsoB 1 (rcmpV ⟨k, xn, s⟩ vals[j]) = false) ∧ Hid (Keep w wr) ∧ Hid (At wr w.heap.size [.int .u8 op, .slice KA kids.length kc, .string col, .int .u8 7, .slice VB vals.length vd]) ∧ Hid (At wr (w.heap.size + 1) [.int .u8 k, .int .i64 xn, .string s]) ∧ w.heap.size + 1 < wr.heap.size) (fun i _ => vals.length - (intOf i).toNat)
    case atStart => exact ⟨0, Nat.zero_le _, rfl, fun j _ hj => absurd hj (Nat.not_lt_zero _), (by repeat (first | exact Keep.refl _ | apply Keep.alloc | apply Keep.gro | apply Keep.drew | apply Keep.drewN)), (at_alloc w [_, _, _, _, _] _).keep' (by repeat (first | exact Keep.refl _ | apply Keep.alloc | apply Keep.gro | apply Keep.drew | apply Keep.drewN)), (by have := at_alloc (w.alloc (.cells #[.int .u8 op, .slice KA kids.length kc, .string col, .int .u8 7, .slice VB vals.length vd] 27)) [.int .u8 k, .int .i64 xn, .string s] 51; rw [World.size_alloc] at this; exact this), by simp⟩
    case round =>
      obtain ⟨m, hm, rfl, HN, HK, HX, HY, hz⟩ := hrel
      have x4 := HX.out 4 _ rfl
      have y0 := HY.out 0 _ rfl
      have y1 := HY.out 1 _ rfl
      have y2 := HY.out 2 _ rfl
      have hz0 : w.heap.size < wr.heap.size := by omega
      by_cases hlt : m < vals.length
      · obtain ⟨g, off, rfl, hg, v0, v1, v2⟩ := sl_val (HV.out.keep HK.out) m hlt
        have HC := Lib.hid (fun W => HSO.out vals[m] (List.getElem_mem hlt) 1 W)
        cases hq : rsoB 1 (rcmpV ⟨k, xn, s⟩ vals[m])
        · have HQ := Lib.hid hq
          rw [hq] at HC
          clear hq
          go_wp2
          first | refine Zone.wp_region_all_gro (by kernel_rfl) (by kernel_rfl) ?_ | refine Zone.wp_region_all (by kernel_rfl) (by kernel_rfl) ?_
          repeat
            refine Zone.wpZ_step (fun K hK => ?_)
            go_simp
            first
            | (refine hK _ _ ?_; clear hK K)
            | (apply Exists.intro
               refine ⟨fun p => ?_, hK _ _ ?_⟩
               ((go_at_call 78; exact Zone.zc (HC.out _)))
               clear hK K)
          refine Zone.wpZ_nil ?_
          intro p
          simp only [Zone.fill]
          go_wp2
          go_roundw
          case rel => exact ⟨m + 1, by omega, by go_num, (fun j hj hjm => by
            by_cases e : j = m
            · subst e; exact HQ.out
            · exact HN.out j hj (by omega)), HK.out.trans (by repeat (first | exact Keep.refl _ | apply Keep.alloc | apply Keep.gro | apply Keep.drew | apply Keep.drewN)), HX.out.keep' (by repeat (first | exact Keep.refl _ | apply Keep.alloc | apply Keep.gro | apply Keep.drew | apply Keep.drewN)), HY.out.keep' (by repeat (first | exact Keep.refl _ | apply Keep.alloc | apply Keep.gro | apply Keep.drew | apply Keep.drewN)), by simp [size_gro]; omega⟩
          case measure => simp [intOf]; omega
        · have hr : R = true := by rw [← HR.out, List.any_eq_true]; exact ⟨vals[m], List.getElem_mem hlt, hq⟩
          subst hr
          rw [hq] at HC
          clear hq
          go_wp2
          first | refine Zone.wp_region_all_gro (by kernel_rfl) (by kernel_rfl) ?_ | refine Zone.wp_region_all (by kernel_rfl) (by kernel_rfl) ?_
          repeat
            refine Zone.wpZ_step (fun K hK => ?_)
            go_simp
            first
            | (refine hK _ _ ?_; clear hK K)
            | (apply Exists.intro
               refine ⟨fun p => ?_, hK _ _ ?_⟩
               ((go_at_call 78; exact Zone.zc (HC.out _)))
               clear hK K)
          refine Zone.wpZ_nil ?_
          intro p
          simp only [Zone.fill]
          go_wp2
          go_ret
          exact ⟨rfl, HK.out.trans (by repeat (first | exact Keep.refl _ | apply Keep.alloc | apply Keep.gro | apply Keep.drew | apply Keep.drewN))⟩
      · have hr : R = false := by
          rw [← HR.out, List.any_eq_false]
          intro v hv
          obtain ⟨j, hj, rfl⟩ := List.getElem_of_mem hv
          simp [HN.out j hj (by omega)]
        subst hr
        go_wp2
        go_ret
        exact ⟨rfl, HK.out⟩
  · have e7 : (cmp == 7) = false := by simpa using h7
    rw [if_neg h7]
    by_cases h8 : cmp = 8
    · subst h8
      have hl : vals.length = 2 := by have := hw (by simp [manyF]); simp [manyF] at this; omega
      rw [if_pos rfl]
      obtain ⟨g, off, rfl, hg, u0, u1, u2⟩ := sl_val HV.out 0 (by omega)
      obtain ⟨g', off', e', _, v0, v1, v2⟩ := sl_val HV.out 1 (by omega)
      cases e'
      have HC := Lib.hid (fun W => HSO.out vals[0] (List.getElem_mem (by omega)) 6 W)
      have HD := Lib.hid (fun W => HSO.out vals[1] (List.getElem_mem (by omega)) 4 W)
      rw [List.getD, List.getElem?_eq_getElem (by omega), List.getD, List.getElem?_eq_getElem (by omega)]
      simp only [Option.getD_some]
      generalize rsoB 6 (rcmpV ⟨k, xn, s⟩ vals[0]) = r0 at HC ⊢
      generalize rsoB 4 (rcmpV ⟨k, xn, s⟩ vals[1]) = r1 at HD ⊢
      generalize vals[0] = q0 at HC u0 u1 u2
      generalize vals[1] = q1 at HD v0 v1 v2
      simp only [Nat.zero_mul, Nat.add_zero, Nat.one_mul] at u0 u1 u2 v0 v1 v2
      clear hw hm h7
      cases r0
      · go_enter Tryz.func48, Tryz.ntmps48
        go_wp2
        first | refine Zone.wp_region_all_gro (by kernel_rfl) (by kernel_rfl) ?_ | refine Zone.wp_region_all (by kernel_rfl) (by kernel_rfl) ?_
        repeat
          refine Zone.wpZ_step (fun K hK => ?_)
          go_simp
          first
          | (refine hK _ _ ?_; clear hK K)
          | (apply Exists.intro
             refine ⟨fun p => ?_, hK _ _ ?_⟩
             ((go_at_call 78; exact Zone.zc (HC.out _)))
             clear hK K)
        refine Zone.wpZ_nil ?_
        intro p
        simp only [Zone.fill]
        go_wp2
        go_ret
        exact ⟨rfl, (by repeat (first | exact Keep.refl _ | apply Keep.alloc | apply Keep.gro | apply Keep.drew | apply Keep.drewN))⟩
      · go_enter Tryz.func48, Tryz.ntmps48
        go_wp2
        first | refine Zone.wp_region_all_gro (by kernel_rfl) (by kernel_rfl) ?_ | refine Zone.wp_region_all (by kernel_rfl) (by kernel_rfl) ?_
        repeat
          refine Zone.wpZ_step (fun K hK => ?_)
          go_simp
          first
          | (refine hK _ _ ?_; clear hK K)
          | (apply Exists.intro
             refine ⟨fun p => ?_, hK _ _ ?_⟩
             ((go_at_call 78; first | with_reducible exact Zone.zc (HC.out _) | with_reducible exact Zone.zc (HD.out _)))
             clear hK K)
        refine Zone.wpZ_nil ?_
        intro p
        simp only [Zone.fill]
        go_wp2
        go_ret
        exact ⟨by simp, (by repeat (first | exact Keep.refl _ | apply Keep.alloc | apply Keep.gro | apply Keep.drew | apply Keep.drewN))⟩
    · have e8 : (cmp == 8) = false := by simpa using h8
      have hl : vals.length = 1 := by
        have h9 : manyF cmp = 1 := by
          unfold manyF at hm ⊢
          split
          · rfl
          · rename_i h; rw [if_neg h, if_neg h7, if_neg h8] at hm; exact absurd rfl hm
        have := hw (by omega)
        omega
      rw [if_neg h8]
      obtain ⟨g, off, rfl, hg, u0, u1, u2⟩ := sl_val HV.out 0 (by omega)
      have HC := Lib.hid (fun W => HSO.out vals[0] (List.getElem_mem (by omega)) cmp W)
      rw [List.getD, List.getElem?_eq_getElem (by omega)]
      simp only [Option.getD_some]
      generalize rsoB cmp (rcmpV ⟨k, xn, s⟩ vals[0]) = r0 at HC ⊢
      generalize vals[0] = q0 at HC u0 u1 u2
      simp only [Nat.zero_mul, Nat.add_zero] at u0 u1 u2
      clear hw hm h7 h8
      go_enter Tryz.func48, Tryz.ntmps48
      go_wp2
      first | refine Zone.wp_region_all_gro (by kernel_rfl) (by kernel_rfl) ?_ | refine Zone.wp_region_all (by kernel_rfl) (by kernel_rfl) ?_
      repeat
        refine Zone.wpZ_step (fun K hK => ?_)
        go_simp
        first
        | (refine hK _ _ ?_; clear hK K)
        | (apply Exists.intro
           refine ⟨fun p => ?_, hK _ _ ?_⟩
           ((go_at_call 78; exact Zone.zc (HC.out _)))
           clear hK K)
      refine Zone.wpZ_nil ?_
      intro p
      simp only [Zone.fill]
      go_wp2
      go_ret
      exact ⟨rfl, (by repeat (first | exact Keep.refl _ | apply Keep.alloc | apply Keep.gro | apply Keep.drew | apply Keep.drewN))⟩
end Go.Proofs.YthigflnfccajoaaGreat
/- The document's Takes: a filter that may be asked. -/
namespace Go.Proofs.YthigflnfccajoaaGreat
open Go.RowKit Go.Zone Go.Shelf
attribute [local go_sem] Zone.zone Zone.stepZ Zone.fill Zone.lookFs Zone.goes Zone.goesUpon Zone.dropFs Zone.cell_gro Zone.frozen_gro Zone.size_gro Zone.lt_add Zone.drew_gro Zone.tape_gro Zone.keep_refl
attribute [local go_sem] Zone.lt_add2 Zone.lt_add3 Zone.lt_add4 Zone.lt_add5 Zone.lt_add6 Zone.lt_add7 Zone.lt_add8 Zone.lt_add9 Zone.lt_add10 Zone.lt_add11 Zone.lt_add12
def takesR (cols : List Col) (row : List Val) (n : Nd) : Bool :=
  if n.op = 1 then n.kids.attach.all fun k => takesR cols row k.1
  else if n.op = 2 then n.kids.attach.any fun k => takesR cols row k.1
  else if n.op = 3 then !(n.kids.attach.any fun k => takesR cols row k.1)
  else if n.op = 4 then rleafB n.cmp n.vals (row.getD (idxP (isCol n.col) cols 0).toNat default) else true
termination_by SizeOf.sizeOf n
decreasing_by all_goals exact kid_lt k.2
theorem all_attR {α : Type} (l : List α) (p : α → Bool) : (l.attach.all fun x => p x.1) = l.all p := by
  conv => rhs; rw [← List.attach_map_subtype_val l, List.all_map]
  rfl
theorem takesR_eq (cols : List Col) (row : List Val) (n : Nd) : takesR cols row n =
    if n.op = 1 then n.kids.all (takesR cols row) else if n.op = 2 then n.kids.any (takesR cols row) else if n.op = 3 then !(n.kids.any (takesR cols row)) else if n.op = 4 then rleafB n.cmp n.vals (row.getD (idxP (isCol n.col) cols 0).toNat default) else true := by
  rw [takesR]
  rw [all_attR n.kids (takesR cols row), any_att n.kids (takesR cols row)]
theorem may_len {x : Val} (h : mayV x = true) : x.s.size ≤ maxLen := by
  unfold mayV at h
  split at h
  · have h0 : x.s.toList = [] := by simpa using h
    rw [Lib.toList_data] at h0
    have : x.s.size = 0 := by
      show x.s.data.size = 0
      rw [← Array.length_toList, h0]; rfl
    omega
  · split at h
    · rw [Bool.and_eq_true, decide_eq_true_iff] at h
      unfold maxLen
      omega
    · cases h
theorem NodeWf.kid {cols : List Col} {d : Nat} {n : Nd} (h : NodeWf cols d n) (ho : n.op ≠ 4) : ∀ k ∈ n.kids, NodeWf cols (d + 1) k := by
  cases h with
  | leaf _ _ hd ho' h => exact absurd ho' ho
  | node _ _ hd ho' h hk => exact hk
theorem NodeWf.p {cols : List Col} {d : Nat} {n : Nd} (h : NodeWf cols d n) (ho : n.op ≠ 4) : NodeP d n := by
  cases h with
  | leaf _ _ hd ho' h => exact absurd ho' ho
  | node _ _ hd ho' h hk => exact h
theorem NodeWf.lf {cols : List Col} {d : Nat} {n : Nd} (h : NodeWf cols d n) (ho : n.op = 4) : leafWf cols n := by
  cases h with
  | leaf _ _ hd ho' h => exact h
  | node _ _ hd ho' h hk => exact absurd ho ho'
set_option maxRecDepth 100000 in
set_option maxHeartbeats 4000000 in
theorem rtakes_any (w0 : World) (b : Nat) (A : Option Addr) (c : Nat) (cols : List Col) (RA : Option Addr) (rc : Nat) (row : List Val) (hc0 : Sl w0 2 Col.cells A c cols) (hr0 : Sl w0 3 Val.cells RA rc row) (hlen : cols.length = row.length) (hrow : ∀ x ∈ row, x.s.size ≤ maxLen) (n : Nd) (hn : Nd.In w0 b n) :
    ∀ (w : World) (d : Nat), Keep w0 w → NodeWf cols d n → Calls Tryz.prog 21 #[.slice A cols.length c, n.v, .slice RA row.length rc] w fun e w' => e = .returned (.bool (takesR cols row n)) ∧ Keep w w' := by
  have HC0 := Lib.hid hc0
  have HR0 := Lib.hid hr0
  have hcl := hc0.len
  have hrl := hr0.len
  clear hc0 hr0
  induction hn with
  | mk n hk hv hA hB hi ih =>
  intro w d hK0 hwf
  have HS := Lib.hid (hk.keep hK0)
  have HV := Lib.hid (hv.keep hK0)
  have hkl := hk.len
  have hvl := hv.len
  have IH := Lib.hid (show n.op ≠ 4 → ∀ k ∈ n.kids, ∀ W, Keep w W → Calls Tryz.prog 21 #[.slice A cols.length c, k.v, .slice RA row.length rc] W fun e w' => e = .returned (.bool (takesR cols row k)) ∧ Keep W w' from
    fun ho k hk W hW => ih k hk W (d + 1) (hK0.trans hW) (hwf.kid ho k hk))
  have HWF := Lib.hid hwf
  have HK0 := Lib.hid hK0
  clear hk hv hA hB hi ih hK0 hwf
  obtain ⟨op, KA, kc, kids, col, cmp, VB, vd, vals⟩ := n
  simp only [Nd.v] at hkl hvl HS HV IH ⊢
  rw [takesR_eq]
  simp only
  by_cases h1 : op = 1
  · subst h1
    rw [if_pos rfl]
    have HI := Lib.hid (IH.out (by decide))
    obtain ⟨R, hR⟩ : ∃ R, kids.all (takesR cols row) = R := ⟨_, rfl⟩
    rw [hR]
    have HR := Lib.hid hR
    clear hR IH HWF hlen hrow HV
    go_enter Tryz.func21, Tryz.ntmps21
    go_wp2
    go_loopw [7] (fun i wr => ∃ k : Nat, k ≤ kids.length ∧ i = .int .i64 k ∧ Hid (Keep w wr) ∧ Hid (∀ j, (h : j < kids.length) → j < k → takesR cols row kids[j] = true) ∧ wr.cell? ⟨w.heap.size, 1, none⟩ = some (.slice KA kids.length kc)) (fun i _ => kids.length - (intOf i).toNat)
    case atStart => exact ⟨0, Nat.zero_le _, rfl, (by repeat (first | exact Keep.refl _ | apply Keep.alloc | apply Keep.gro | apply Keep.drew | apply Keep.drewN)), fun j _ hj => absurd hj (Nat.not_lt_zero _), by simp [go_sem]⟩
    case round =>
      obtain ⟨k, hk, rfl, HK, HN, x1⟩ := hrel
      have hz := World.block_lt_of_cell? _ _ x1
      simp only at hz
      by_cases hlt : k < kids.length
      · obtain ⟨g, off, rfl, hg, k0, k1, k2, k3, k4⟩ := sl_nd (HS.out.keep HK.out) k hlt
        have HC := Lib.hid (HI.out kids[k] (List.getElem_mem hlt))
        cases hq : takesR cols row kids[k]
        · rw [hq] at HC
          have hr : R = false := by rw [← HR.out, List.all_eq_false]; exact ⟨kids[k], List.getElem_mem hlt, by simp [hq]⟩
          subst hr
          clear hq
          go_wp2_with (go_at_call 21; refine (HC.out _ (HK.out.trans (by repeat (first | exact Keep.refl _ | apply Keep.alloc | apply Keep.gro | apply Keep.drew | apply Keep.drewN)))).mono ?_; rintro e w' ⟨rfl, hk'⟩; obtain ⟨p, rfl⟩ := gro_of_below _ hk'; clear hk')
          go_ret
          exact ⟨rfl, HK.out.trans (by repeat (first | exact Keep.refl _ | apply Keep.alloc | apply Keep.gro | apply Keep.drew | apply Keep.drewN))⟩
        · rw [hq] at HC
          have HQ := Lib.hid hq
          clear hq
          go_wp2_with (go_at_call 21; refine (HC.out _ (HK.out.trans (by repeat (first | exact Keep.refl _ | apply Keep.alloc | apply Keep.gro | apply Keep.drew | apply Keep.drewN)))).mono ?_; rintro e w' ⟨rfl, hk'⟩; obtain ⟨p, rfl⟩ := gro_of_below _ hk'; clear hk')
          go_roundw
          case rel => exact ⟨k + 1, by omega, by go_num, HK.out.trans (by repeat (first | exact Keep.refl _ | apply Keep.alloc | apply Keep.gro | apply Keep.drew | apply Keep.drewN)), (fun j hj hjk => by
            by_cases e : j = k
            · subst e; exact HQ.out
            · exact HN.out j hj (by omega)), by simp [go_sem, hz, x1]⟩
          case measure => simp [intOf]; omega
      · have hr : R = true := by
          rw [← HR.out, List.all_eq_true]
          intro q hq
          obtain ⟨j, hj, rfl⟩ := List.getElem_of_mem hq
          exact HN.out j hj (by omega)
        subst hr
        go_wp2
        go_ret
        exact ⟨rfl, HK.out⟩
  · have e1 : (op == 1) = false := by simpa using h1
    rw [if_neg h1]
    by_cases h2 : op = 2
    · subst h2
      rw [if_pos rfl]
      have HI := Lib.hid (IH.out (by decide))
      obtain ⟨R, hR⟩ : ∃ R, kids.any (takesR cols row) = R := ⟨_, rfl⟩
      rw [hR]
      have HR := Lib.hid hR
      clear hR IH HWF hlen hrow HV h1 e1
      go_enter Tryz.func21, Tryz.ntmps21
      go_wp2
      go_loopw [8] (fun i wr => ∃ k : Nat, k ≤ kids.length ∧ i = .int .i64 k ∧ Hid (Keep w wr) ∧ Hid (∀ j, (h : j < kids.length) → j < k → takesR cols row kids[j] = false) ∧ wr.cell? ⟨w.heap.size, 1, none⟩ = some (.slice KA kids.length kc)) (fun i _ => kids.length - (intOf i).toNat)
      case atStart => exact ⟨0, Nat.zero_le _, rfl, (by repeat (first | exact Keep.refl _ | apply Keep.alloc | apply Keep.gro | apply Keep.drew | apply Keep.drewN)), fun j _ hj => absurd hj (Nat.not_lt_zero _), by simp [go_sem]⟩
      case round =>
        obtain ⟨k, hk, rfl, HK, HN, x1⟩ := hrel
        have hz := World.block_lt_of_cell? _ _ x1
        simp only at hz
        by_cases hlt : k < kids.length
        · obtain ⟨g, off, rfl, hg, k0, k1, k2, k3, k4⟩ := sl_nd (HS.out.keep HK.out) k hlt
          have HC := Lib.hid (HI.out kids[k] (List.getElem_mem hlt))
          cases hq : takesR cols row kids[k]
          · rw [hq] at HC
            have HQ := Lib.hid hq
            clear hq
            go_wp2_with (go_at_call 21; refine (HC.out _ (HK.out.trans (by repeat (first | exact Keep.refl _ | apply Keep.alloc | apply Keep.gro | apply Keep.drew | apply Keep.drewN)))).mono ?_; rintro e w' ⟨rfl, hk'⟩; obtain ⟨p, rfl⟩ := gro_of_below _ hk'; clear hk')
            go_roundw
            case rel => exact ⟨k + 1, by omega, by go_num, HK.out.trans (by repeat (first | exact Keep.refl _ | apply Keep.alloc | apply Keep.gro | apply Keep.drew | apply Keep.drewN)), (fun j hj hjk => by
              by_cases e : j = k
              · subst e; exact HQ.out
              · exact HN.out j hj (by omega)), by simp [go_sem, hz, x1]⟩
            case measure => simp [intOf]; omega
          · rw [hq] at HC
            have hr : R = true := by rw [← HR.out, List.any_eq_true]; exact ⟨kids[k], List.getElem_mem hlt, hq⟩
            subst hr
            clear hq
            go_wp2_with (go_at_call 21; refine (HC.out _ (HK.out.trans (by repeat (first | exact Keep.refl _ | apply Keep.alloc | apply Keep.gro | apply Keep.drew | apply Keep.drewN)))).mono ?_; rintro e w' ⟨rfl, hk'⟩; obtain ⟨p, rfl⟩ := gro_of_below _ hk'; clear hk')
            go_ret
            exact ⟨rfl, HK.out.trans (by repeat (first | exact Keep.refl _ | apply Keep.alloc | apply Keep.gro | apply Keep.drew | apply Keep.drewN))⟩
        · have hr : R = false := by
            rw [← HR.out, List.any_eq_false]
            intro q hq
            obtain ⟨j, hj, rfl⟩ := List.getElem_of_mem hq
            simp [HN.out j hj (by omega)]
          subst hr
          go_wp2
          go_ret
          exact ⟨rfl, HK.out⟩
    · have e2 : (op == 2) = false := by simpa using h2
      rw [if_neg h2]
      by_cases h3 : op = 3
      · subst h3
        rw [if_pos rfl]
        have HI := Lib.hid (IH.out (by decide))
        have hl1 : kids.length = 1 := (HWF.out.p (show (3 : Int) ≠ 4 by decide)).not rfl
        obtain ⟨q, rfl⟩ : ∃ q, kids = [q] := by
          match kids, hl1 with
          | [q], _ => exact ⟨q, rfl⟩
        obtain ⟨g, off, rfl, hg, k0, k1, k2, k3, k4⟩ := sl_nd HS.out 0 (by simp)
        simp only [List.getElem_cons_zero, Nat.zero_mul, Nat.add_zero] at k0 k1 k2 k3 k4
        have HC := Lib.hid (HI.out q (by simp))
        have hany : [q].any (takesR cols row) = takesR cols row q := by simp
        rw [hany]
        generalize takesR cols row q = r at HC ⊢
        simp only [List.length_singleton]
        clear HI IH HWF hlen hrow HV h1 h2 e1 e2 hany hl1
        go_enter Tryz.func21, Tryz.ntmps21
        go_wp2_with (go_at_call 21; refine (HC.out _ (by repeat (first | exact Keep.refl _ | apply Keep.alloc | apply Keep.gro | apply Keep.drew | apply Keep.drewN))).mono ?_; rintro e w' ⟨rfl, hk'⟩; obtain ⟨p, rfl⟩ := gro_of_below _ hk'; clear hk')
        go_ret
        exact ⟨rfl, (by repeat (first | exact Keep.refl _ | apply Keep.alloc | apply Keep.gro | apply Keep.drew | apply Keep.drewN))⟩
      · have e3 : (op == 3) = false := by simpa using h3
        rw [if_neg h3]
        by_cases h4 : op = 4
        · subst h4
          rw [if_pos rfl]
          obtain ⟨⟨hp1, hp2, hp3⟩, ⟨k, hk, hke, _⟩, hvs⟩ := HWF.out.lf rfl
          simp only at hp1 hp2 hp3 hke hvs
          have hkr : k < row.length := by omega
          have HCOL := Lib.hid (fun W (hW : Keep w W) => rcol_any A c cols col W ((HC0.out.keep HK0.out).keep hW))
          rw [hke] at HCOL
          have HLF := Lib.hid (fun W (hW : Keep w W) => rlf_any ⟨4, KA, kc, kids, col, cmp, VB, vd, vals⟩ row[k] W (HV.out.keep hW) hkl (hrow _ (List.getElem_mem hkr)) (fun v hv => may_len (hvs v hv).1) hp3 hp2)
          rw [hke]
          have hgd : row.getD ((k : Int)).toNat default = row[k] := by simp [List.getD, List.getElem?_eq_getElem hkr]
          rw [hgd]
          obtain ⟨rb, ro, rfl, hrb, r0, r1, r2⟩ := sl_val (HR0.out.keep HK0.out) k hkr
          simp only [Nd.v] at HLF
          generalize row[k] = rk at HLF r0 r1 r2 ⊢
          generalize rleafB cmp vals rk = res at HLF ⊢
          obtain ⟨rk0, rk1, rk2⟩ := rk
          simp only [Val.v] at HLF r0 r1 r2
          clear IH HWF hlen hrow hp1 hp2 hp3 hvs hke hgd h1 h2 h3 HV HS
          go_enter Tryz.func21, Tryz.ntmps21
          go_wp2
          first | refine Zone.wp_region_all_gro (by kernel_rfl) (by kernel_rfl) ?_ | refine Zone.wp_region_all (by kernel_rfl) (by kernel_rfl) ?_
          repeat
            refine Zone.wpZ_step (fun K hK => ?_)
            go_simp
            first
            | (refine hK _ _ ?_; clear hK K)
            | (apply Exists.intro
               refine ⟨fun p => ?_, hK _ _ ?_⟩
               ((first | (go_at_call 49; exact Zone.zc (HCOL.out _ (by repeat (first | exact Keep.refl _ | apply Keep.alloc | apply Keep.gro | apply Keep.drew | apply Keep.drewN)))) | (go_at_call 48; exact Zone.zc (HLF.out _ (by repeat (first | exact Keep.refl _ | apply Keep.alloc | apply Keep.gro | apply Keep.drew | apply Keep.drewN))))))
               clear hK K)
          refine Zone.wpZ_nil ?_
          intro p
          simp only [Zone.fill]
          go_wp2
          go_ret
          exact ⟨rfl, (by repeat (first | exact Keep.refl _ | apply Keep.alloc | apply Keep.gro | apply Keep.drew | apply Keep.drewN))⟩
        · have e4 : (op == 4) = false := by simpa using h4
          rw [if_neg h4]
          clear IH HWF hlen hrow h1 h2 h3 h4 HV HS
          go_enter Tryz.func21, Tryz.ntmps21
          go_wp2
          go_ret
          exact ⟨rfl, (by repeat (first | exact Keep.refl _ | apply Keep.alloc | apply Keep.gro | apply Keep.drew | apply Keep.drewN))⟩
end Go.Proofs.YthigflnfccajoaaGreat
