
/- IdsRestrict: the document's restrictions: ref25.Restrict. -/
import Derived.WalkKit
import Derived.Lib.Hide
import Derived.WalkSpells
import Derived.WalkLawsBesides
import Derived.BigQuiet
import Derived.Shelf.Abstract
import Derived.Test.YthigflnfccajoaaGreatRs
namespace Go.Proofs.YthigflnfccajoaaGreat
open Go.RowKit Go.Zone Go.Shelf
attribute [local go_sem] Zone.zone Zone.stepZ Zone.fill Zone.lookFs Zone.goes Zone.goesUpon Zone.dropFs Zone.cell_gro Zone.frozen_gro Zone.size_gro Zone.lt_add Zone.drew_gro Zone.tape_gro Zone.keep_refl
attribute [local go_sem] Zone.lt_add2 Zone.lt_add3 Zone.lt_add4 Zone.lt_add5 Zone.lt_add6 Zone.lt_add7 Zone.lt_add8 Zone.lt_add9 Zone.lt_add10 Zone.lt_add11 Zone.lt_add12
attribute [local go_sem] Zone.calm_normal
theorem sl_row {w : World} {c : Nat} {A : Option Addr} {xs : List Mc} (h : Sl w 1 rowV A c xs) (i : Nat) (hi : i < xs.length) : ∃ b off, A = some ⟨b, off, none⟩ ∧ b < w.heap.size ∧ w.cell? ⟨b, off + i, none⟩ = some (.slice xs[i].RA xs[i].xs.length xs[i].Rc) := by
  obtain ⟨b, off, hA, hc⟩ := h.at_ i hi
  have h0 := hc 0 _ rfl
  exact ⟨b, off, hA, World.block_lt_of_cell? w _ h0, by simpa using h0⟩
theorem ix_inj (s : Nm) (hs : s = nA ∨ s = nB ∨ s = nC) (j : Nat) (hj : j < 3) (h : names3[j]'hj = s) : j = ixN s := by
  have h1 := ix_lt s
  have h2 := ix_at s hs
  rcases Nat.lt_trichotomy j (ixN s) with h3 | h3 | h3
  · exact absurd h (ix_ne s j h3)
  · exact h3
  · exfalso
    have : ∀ a b, (ha : a < 3) → (hb : b < 3) → a < b → names3[a]'ha ≠ names3[b]'hb := fun a b ha hb hab => by
      rcases (show (a = 0 ∧ b = 1) ∨ (a = 0 ∧ b = 2) ∨ (a = 1 ∧ b = 2) by omega) with ⟨rfl, rfl⟩ | ⟨rfl, rfl⟩ | ⟨rfl, rfl⟩ <;> first | exact nAB | exact nAC | exact nBC
    exact this (ixN s) j h1 hj h3 (by rw [h, h2])
/-- What the rows hold. -/
structure RowOk (w : World) (s : Nm) (m : Mc) : Prop where
  sl : Sl w 3 Val.cells m.RA m.Rc m.xs
  kind : ∀ y ∈ m.xs, y.k = colKind (kindS s)
  big : ∀ y ∈ m.xs, y.s.size ≤ maxLen
  len : m.xs.length ≤ 100000
set_option maxRecDepth 100000 in
set_option maxHeartbeats 16000000 in
theorem rrestrict_any (w0 : World) (b0 : Nat) (f : Nd) (hn : Nd.In w0 b0 f) (w : World) (hk0 : Keep w0 w) (hsz : f.sz ≤ 1000000) (dp : Nat) (hwf : NodeWf colsC dp f) (NA RA : Option Addr) (nc Rc : Nat) (m0 m1 m2 : Mc)
    (hN : Sl w 1 nmV NA nc names3) (hR : Sl w 1 rowV RA Rc [m0, m1, m2]) (hrow : ∀ s, s = nA ∨ s = nB ∨ s = nC → RowOk w s (pickM m0 m1 m2 s)) :
    Calls Tryz.prog 12 #[f.v, .slice NA 3 nc, .slice RA 3 Rc] w fun e w' => ∃ v no ok, e = .returned (.tuple #[v, .bool no, .bool ok]) ∧ RestR w.heap.size kindS (fun s => (pickM m0 m1 m2 s).xs) f v no ok w' ∧ Keep w w' := by
  have HPA := Lib.hid (fun W (hW : Keep w W) => rparts_f w0 b0 f hn W (hk0.trans hW) hsz)
  have HCO := Lib.hid (fun W (hW : Keep w W) => rcolumns_any w0 b0 f hn W (hk0.trans hW) hsz)
  have HCL := Lib.hid (Nat.le_trans (cols_len f) hsz)
  have HPL := Lib.hid (fun L hL => Nat.le_trans (parts_len f L hL) hsz : ∀ L, partsOf f = some L → L.length ≤ 1000000)
  have HPC := Lib.hid (parts_cols f)
  have HPX := Lib.hid (show ∀ L, partsOf f = some L → ∀ x ∈ L, Nd.In w0 b0 x ∧ x.sz ≤ 1000000 ∧ ∃ d', NodeWf colsC d' x from fun L hL x hx => ⟨parts_in hn L hL x hx, Nat.le_trans (parts_szx f L hL x hx) hsz, parts_wf f L hL dp hwf x hx⟩)
  have HWC := Lib.hid (wf_cols hwf)
  have HK0 := Lib.hid hk0
  have HNS := Lib.hid hN
  have HRS := Lib.hid hR
  have HRO := Lib.hid hrow
  have hkl := hn.kids_.len
  have hvl := hn.vals_.len
  obtain ⟨cs, hcs⟩ : ∃ cs, colsOf f = cs := ⟨_, rfl⟩
  have e0 : f.v = .agg #[.int .u8 f.op, .slice f.A f.kids.length f.c, .string f.col, .int .u8 f.cmp, .slice f.B f.vals.length f.d] := rfl
  unfold RestR
  rw [hcs] at HCO HCL HPC HWC ⊢
  rw [e0] at HPA HCO ⊢
  clear hn hk0 hsz hcs e0 hwf hN hR hrow
  go_enter Tryz.func12, Tryz.ntmps12
  go_wp2_with (go_at_call 38; refine Zone.hold ?_)
  refine Zone.unhold ?_
  refine (HPA.out _ (by repeat (first | exact Keep.refl _ | apply Keep.alloc | apply Keep.gro | apply Keep.drew | apply Keep.drewN))).mono ?_
  rintro e w2 ⟨v2, ok2, rfl, hr2, hk2⟩
  obtain ⟨p2, rfl⟩ := gro_of_below _ hk2
  rcases hr2 with ⟨rfl, hn2, rfl⟩ | ⟨rfl, ps, hp2, ho2⟩
  · have HN2 := Lib.hid hn2
    clear hk2 hn2
    go_wp2
    exact bodyPost_ret (v := .tuple #[.slice none 0 0, .bool false, .bool false]) (by simp [results, Tryz.results12, go_sem]) rfl ⟨_, false, false, rfl, .inl ⟨rfl, rfl, HN2.out, rfl⟩, (by repeat (first | exact Keep.refl _ | apply Keep.alloc | apply Keep.gro | apply Keep.drew | apply Keep.drewN))⟩
  · have HP2 := Lib.hid hp2
    have hpl := HPL.out ps hp2
    obtain ⟨A2, c2, rfl, hs2⟩ := ho2.sl nd_len (by omega)
    have HS2 := Lib.hid hs2
    clear hk2 hp2 ho2 hs2
    have hb0 : w.heap.size < ((w.alloc (.cells #[.int .u8 f.op, .slice f.A f.kids.length f.c, .string f.col, .int .u8 f.cmp, .slice f.B f.vals.length f.d] 27)).gro p2).heap.size := by simp [size_gro]; omega
    go_wp2_with (go_at_call 14; refine Zone.hold ?_)
    refine Zone.unhold ?_
    refine (HCO.out _ (by repeat (first | exact Keep.refl _ | apply Keep.alloc | apply Keep.gro | apply Keep.drew | apply Keep.drewN))).mono ?_
    rintro e w3 ⟨A3, c3, rfl, hs3, hk3⟩
    have HS3 := Lib.hid hs3
    have HS2' := Lib.hid (HS2.out.keep hk3)
    have HK3 := Lib.hid (Keep.trans (show Keep w _ from (by repeat (first | exact Keep.refl _ | apply Keep.alloc | apply Keep.gro | apply Keep.drew | apply Keep.drewN))) hk3)
    have hz3 : w.heap.size < w3.heap.size := Nat.lt_of_lt_of_le hb0 hk3.size
    clear hs3 hk3 hb0 HS2
    go_wp2
    go_loopw [11, 14] (fun v i wr => ∃ k : Nat, k ≤ cs.length ∧ i = .int .i64 k ∧ ∃ rs, Hid (RL wr w3.heap.size v rs) ∧ Hid (rs.map (fun r => (r.col, r.may)) = (cs.take k).map fun s => (s, mayTo kindS (fun s => (pickM m0 m1 m2 s).xs) s ps)) ∧ Hid (Keep w3 wr)) (fun _ i _ => cs.length - (intOf i).toNat)
    case atStart => exact ⟨0, Nat.zero_le _, rfl, [], ⟨Own.nil_ _ _ _ _ _, fun r hr => (by cases hr), List.Pairwise.nil⟩, rfl, Keep.refl _⟩
    case round =>
      obtain ⟨k, hk, rfl, rs, HRL, HEQ, HK⟩ := hrel
      by_cases hlt : k < cs.length
      · have hmem : cs[k] ∈ cs := List.getElem_mem hlt
        have hws := HWC.out cs[k] hmem
        obtain ⟨s, hs⟩ : ∃ s, cs[k] = s := ⟨_, rfl⟩
        rw [hs] at hws
        have HSK := Lib.hid hs
        obtain ⟨ix, hil, e1, e2, e3⟩ : ∃ ix, ∃ h : ix < 3, names3[ix]'h = s ∧ (∀ j, (hj : j < 3) → names3[j]'hj = s → j = ix) ∧ [m0, m1, m2][ix]'h = pickM m0 m1 m2 s := ⟨ixN s, ix_lt s, ix_at s hws, ix_inj s hws, pick_ix m0 m1 m2 s⟩
        have HRK := Lib.hid (HRO.out s hws)
        have HLT := Lib.hid hlt
        obtain ⟨m, hm⟩ : ∃ m, pickM m0 m1 m2 s = m := ⟨_, rfl⟩
        rw [hm] at e3 HRK
        have HM := Lib.hid hm
        have HXA := Lib.hid e1
        have HIX := Lib.hid e2
        have HXP := Lib.hid e3
        have HWS := Lib.hid hws
        clear e1 e2 e3 hm hmem hws
        clear hs
        go_wp2
        go_loopw [15, 16] (fun dv i wq => ∃ q : Nat, q ≤ 3 ∧ i = .int .i64 q ∧ ∃ dw, dw = dv ∧ dw = (if ix < q then .slice m.RA m.xs.length m.Rc else .slice none 0 0) ∧ Hid (Keep wr wq)) (fun _ i _ => 3 - (intOf i).toNat)
        case atStart => exact ⟨0, Nat.zero_le _, rfl, _, rfl, by simp, Keep.refl _⟩
        case round =>
          obtain ⟨q, hq, rfl, dw, rfl, hdv, HKQ⟩ := hrel
          by_cases hq3 : q < 3
          · obtain ⟨g, off, hA3, hg, h0⟩ := sl_nm (HS3.out.keep (HK.out.trans HKQ.out)) k hlt
            obtain ⟨nb, no, hNA, hnb, n0⟩ := sl_nm (HNS.out.keep (HK3.out.trans (HK.out.trans HKQ.out))) q hq3
            obtain ⟨x, hxe, hxl⟩ := enc_out (names3[q]'hq3)
            obtain ⟨y, hye, hyl⟩ := enc_out (cs[k]'hlt)
            rw [hxe] at n0
            replace h0 := h0.trans (congrArg some hye)
            subst hA3 hNA
            have HXL := Lib.hid hxl
            have HYL := Lib.hid (hyl.trans HSK.out)
            clear hxe hxl hye hyl
            by_cases hqx : q = ix
            · subst hqx
              have he : (x.toList == y.toList) = true := by rw [HXL.out, HYL.out, HXA.out]; simp
              obtain ⟨rb, ro, hRA, hrb, r0⟩ := sl_row (HRS.out.keep (HK3.out.trans (HK.out.trans HKQ.out))) q hq3
              rw [HXP.out] at r0
              subst hRA
              rw [if_neg (Nat.lt_irrefl _)] at hdv
              subst hdv
              go_wp2
              first | refine Zone.wp_region_all_gro (by kernel_rfl) (by kernel_rfl) ?_ | refine Zone.wp_region_all (by kernel_rfl) (by kernel_rfl) ?_
              repeat
                refine Zone.wpZ_step (fun K hK => ?_)
                go_simp
                first
                | (refine hK _ _ ?_; clear hK K)
                | (apply Exists.intro
                   refine ⟨fun p => ?_, hK _ _ ?_⟩
                   (fail)
                   clear hK K)
              refine Zone.wpZ_nil ?_
              intro p
              simp only [Zone.fill]
              go_wp2
              go_roundw
              case rel => exact ⟨q + 1, by omega, by go_num, _, rfl, by rw [if_pos (Nat.lt_succ_self _)], HKQ.out.trans (by repeat (first | exact Keep.refl _ | apply Keep.alloc | apply Keep.gro | apply Keep.drew | apply Keep.drewN))⟩
              case measure => simp [intOf]; omega
            · have he : (x.toList == y.toList) = false := by rw [HXL.out, HYL.out]; exact beq_eq_false_iff_ne.2 fun e => hqx (HIX.out q hq3 e)
              have HDV := Lib.hid (show dw = if ix < q + 1 then .slice m.RA m.xs.length m.Rc else .slice none 0 0 by
                rw [hdv]
                by_cases hx : ix < q
                · rw [if_pos hx, if_pos (by omega)]
                · rw [if_neg hx, if_neg (by omega)])
              clear hqx hdv
              go_wp2
              first | refine Zone.wp_region_all_gro (by kernel_rfl) (by kernel_rfl) ?_ | refine Zone.wp_region_all (by kernel_rfl) (by kernel_rfl) ?_
              repeat
                refine Zone.wpZ_step (fun K hK => ?_)
                go_simp
                first
                | (refine hK _ _ ?_; clear hK K)
                | (apply Exists.intro
                   refine ⟨fun p => ?_, hK _ _ ?_⟩
                   (fail)
                   clear hK K)
              refine Zone.wpZ_nil ?_
              intro p
              simp only [Zone.fill]
              go_wp2
              go_roundw
              case rel => exact ⟨q + 1, by omega, by go_num, _, rfl, HDV.out, HKQ.out.trans (by repeat (first | exact Keep.refl _ | apply Keep.alloc | apply Keep.gro | apply Keep.drew | apply Keep.drewN))⟩
              case measure => simp [intOf]; omega
          · have : q = 3 := by omega
            subst this
            rw [if_pos hil] at hdv
            subst hdv
            have HK' := Lib.hid (HK.out.trans HKQ.out)
            have HRL' := Lib.hid (HRL.out.keep HKQ.out)
            clear HKQ HK HRL hq hq3
            obtain ⟨wa, hwa⟩ : ∃ wa, wa = wr := ⟨_, rfl⟩
            subst hwa
            have hl6 := HRK.out.len
            obtain ⟨n, hnn⟩ : ∃ n, m.xs.length = n := ⟨_, rfl⟩
            have HNN := Lib.hid hnn
            rw [hnn] at hl6 ⊢
            clear hnn
            obtain ⟨W', hr, ho, hkw⟩ := own_make n wa.heap.size wa (by omega) (Nat.le_refl _)
            have HO := Lib.hid ho
            have HKW := Lib.hid hkw
            have e0 : (List.replicate n false) = (List.replicate 0 true) ++ List.replicate (n - 0) false := by simp
            rw [e0] at HO
            obtain ⟨gm, hgm⟩ : ∃ gm, wa.heap.size = gm := ⟨_, rfl⟩
            have HGM := Lib.hid hgm
            rw [hgm] at hr HO
            clear ho hkw e0 hgm
            go_wp2
            go_loopw [18] (fun i wq => ∃ q : Nat, q ≤ n ∧ i = .int .i64 q ∧ Hid (OwnF wq gm (.slice (some ⟨gm, 0, none⟩) n n) (List.replicate q true ++ List.replicate (n - q) false)) ∧ Hid (Keep wa wq)) (fun i _ => n - (intOf i).toNat)
            case atStart => exact ⟨0, Nat.zero_le _, rfl, HO.out, HKW.out⟩
            case round =>
              obtain ⟨q, hq, rfl, HO1, HK1⟩ := hrel
              by_cases hqn : q < n
              · have hlen : (List.replicate q true ++ List.replicate (n - q) false).length = n := by simp; omega
                obtain ⟨c0, c1, c2, c3⟩ := own_cellF HO1.out hlen.symm q (by omega)
                generalize (List.replicate q true ++ List.replicate (n - q) false)[q] = u0 at c0
                have ho2 := own_setF HO1.out hlen.symm q true
                have hset : (List.replicate q true ++ List.replicate (n - q) false).set q true = List.replicate (q + 1) true ++ List.replicate (n - (q + 1)) false := by
                  rw [List.set_append_right _ _ (by simp), List.length_replicate, Nat.sub_self, show n - q = (n - (q + 1)) + 1 by omega, List.replicate_succ, List.set_cons_zero, List.replicate_succ' (n := q), List.append_assoc]; rfl
                rw [hset] at ho2
                have HO2 := Lib.hid ho2
                clear ho2 hset hlen c3
                go_wp2
                go_roundw
                case rel => exact ⟨q + 1, by omega, by go_num, HO2.out, HK1.out.setCell (Nat.le_of_eq HGM.out) _⟩
                case measure => simp [intOf]; omega
              · have : n = q := by omega
                subst this
                rw [Nat.sub_self, List.replicate_zero, List.append_nil] at HO1
                clear HO HKW hr hq hqn
                go_wp2
                go_loopw [19] (fun i wq => ∃ q : Nat, q ≤ ps.length ∧ i = .int .i64 q ∧ ∃ L, Hid (L = (ps.take q).foldl (mayStep kindS (fun s => (pickM m0 m1 m2 s).xs) s) (List.replicate n true)) ∧ Hid (L.length = n) ∧ Hid (OwnF wq gm (.slice (some ⟨gm, 0, none⟩) n n) L) ∧ Hid (Keep wa wq)) (fun i _ => ps.length - (intOf i).toNat)
                case atStart => exact ⟨0, Nat.zero_le _, rfl, _, rfl, List.length_replicate, HO1.out, HK1.out⟩
                case round =>
                  obtain ⟨q, hq, rfl, L, HL, HLN, HOL, HKL⟩ := hrel
                  by_cases hqp : q < ps.length
                  · have hpx := HPX.out ps HP2.out ps[q] (List.getElem_mem hqp)
                    have hpc := (HPC.out ps HP2.out).1 ps[q] (List.getElem_mem hqp)
                    have HTK := Lib.hid (show (ps.take (q + 1)).foldl (mayStep kindS (fun s => (pickM m0 m1 m2 s).xs) s) (List.replicate n true) = mayStep kindS (fun s => (pickM m0 m1 m2 s).xs) s L ps[q] by rw [List.take_succ_eq_append_getElem hqp, List.foldl_append, ← HL.out]; rfl)
                    obtain ⟨g2, o2, rfl, hg2, h0, h1, h2, h3, h4⟩ := sl_nd (HS2'.out.keep (HK'.out.trans HKL.out)) q hqp
                    have HQP := Lib.hid hqp
                    have HCE := Lib.hid (fun W (hW : Keep w3 W) => sl_nd (HS2'.out.keep hW) q hqp)
                    generalize ps[q] = x at hpx hpc HTK h0 h1 h2 h3 h4 HCE
                    obtain ⟨hxi, hxs, dx, hxw⟩ := hpx
                    have HXI := Lib.hid hxi
                    have HXW := Lib.hid hxw
                    have HCX := Lib.hid (fun W (hW : Keep w3 W) => rcolumns_any w0 b0 x hxi W ((HK0.out.trans HK3.out).trans hW) hxs)
                    clear hxi hxw hxs HL HO1 HK1
                    go_wp2_with (go_at_call 14; refine Zone.hold ?_)
                    refine Zone.unhold ?_
                    refine (HCX.out _ ((HK'.out.trans HKL.out).trans (by repeat (first | exact Keep.refl _ | apply Keep.alloc | apply Keep.gro | apply Keep.drew | apply Keep.drewN)))).mono ?_
                    rintro e w5 ⟨A5, c5, rfl, hs5, hk5⟩
                    have HOL5 := Lib.hid (HOL.out.keep hk5)
                    have HKL5 := Lib.hid (HKL.out.trans hk5)
                    have hpc2 := hpc
                    rcases hcx : colsOf x with _ | ⟨t, r⟩
                    · have HTK2 := Lib.hid (show (ps.take (q + 1)).foldl (mayStep kindS (fun s => (pickM m0 m1 m2 s).xs) s) (List.replicate n true) = L by rw [HTK.out]; unfold mayStep; rw [hcx]; rfl)
                      rw [hcx] at hs5
                      clear hs5 HCX HXI HXW HTK hpc hpc2 hcx h0 h1 h2 h3 h4
                      obtain ⟨p5, rfl⟩ := gro_of_below _ hk5
                      clear hk5
                      simp only [List.length_nil]
                      go_wp2
                      first | refine Zone.wp_region_all_gro (by kernel_rfl) (by kernel_rfl) ?_ | refine Zone.wp_region_all (by kernel_rfl) (by kernel_rfl) ?_
                      repeat
                        refine Zone.wpZ_step (fun K hK => ?_)
                        go_simp
                        first
                        | (refine hK _ _ ?_; clear hK K)
                        | (apply Exists.intro
                           refine ⟨fun p => ?_, hK _ _ ?_⟩
                           (fail)
                           clear hK K)
                      refine Zone.wpZ_nil ?_
                      intro p
                      simp only [Zone.fill]
                      go_wp2
                      go_roundw
                      case rel =>
                        iterate 57 apply Exists.intro
                        refine And.intro ?_ rfl
                        exact ⟨q + 1, by have := HQP.out; omega, by go_num, L, HTK2.out.symm, HLN.out, HOL.out.keep (below_gro _ p), HKL.out.trans (below_gro _ p)⟩
                        all_goals exact undef
                      case measure => simp [intOf]; omega
                    · obtain rfl : r = [] := by
                        rw [hcx] at hpc
                        cases r with
                        | nil => rfl
                        | cons a b => simp at hpc
                      have HCXX := Lib.hid hcx
                      rw [hcx] at hs5 HCX
                      clear hpc hpc2 hcx
                      simp only [List.length_singleton]
                      obtain ⟨g5, o5, rfl, hg5, y0⟩ := sl_nm hs5 0 (by simp)
                      simp only [List.getElem_cons_zero, Nat.add_zero] at y0
                      obtain ⟨g3, o3, hA3, hg3, z0⟩ := sl_nm (HS3.out.keep (HK'.out.trans HKL5.out)) k hlt
                      obtain ⟨ya, hye, hyl⟩ := enc_out t
                      obtain ⟨za, hze, hzl⟩ := enc_out (cs[k]'hlt)
                      replace y0 := y0.trans (congrArg some hye)
                      replace z0 := z0.trans (congrArg some hze)
                      subst hA3
                      have HYL := Lib.hid hyl
                      have HZL := Lib.hid (hzl.trans HSK.out)
                      obtain ⟨p5, rfl⟩ := gro_of_below _ hk5
                      clear hs5 hye hyl hze hzl hk5 hg5 hg3 HOL HKL h0 h1 h2 h3 h4
                      generalize World.gro _ _ = w6 at y0 z0 HOL5 HKL5 ⊢
                      by_cases hts : t = s
                      · have he : (ya.toList == za.toList) = true := by rw [HYL.out, HZL.out, hts]; simp
                        have HON := Lib.hid (fun W (hW : Keep w3 W) => (show Calls Tryz.prog 17 #[.string za, .slice m.RA n m.Rc, x.v] W fun e w' => ∃ v, e = .returned v ∧ OwnF w' W.heap.size v (oneF (kindS s) m.xs x) ∧ Keep W w' by
                          rw [← HNN.out]
                          exact rone_any W b0 za s (by rw [← Lib.toList_data]; exact HZL.out) m.RA m.Rc m.xs (HRK.out.sl.keep (HK3.out.trans hW)) HRK.out.kind HRK.out.big HRK.out.len x (HXI.out.keep ((HK0.out.trans HK3.out).trans hW)) dx HXW.out (by rw [HCXX.out]; simpa using hts) W (Keep.refl _)))
                        have HTK2 := Lib.hid (show (ps.take (q + 1)).foldl (mayStep kindS (fun s => (pickM m0 m1 m2 s).xs) s) (List.replicate n true) = List.zipWith (· && ·) L (oneF (kindS s) m.xs x) by rw [HTK.out]; unfold mayStep; rw [HCXX.out, hts]; simp [HM.out])
                        have y1 := World.block_lt_of_cell? _ _ y0
                        have z1 := World.block_lt_of_cell? _ _ z0
                        dsimp only at y1 z1
                        clear hts HTK HCXX HXI HXW HCX
                        obtain ⟨g7, o7, e7, hg7, h0, h1, h2, h3, h4⟩ := HCE.out _ (HK'.out.trans HKL5.out)
                        cases e7
                        go_wp2
                        first | refine Zone.wp_region_all_gro (by kernel_rfl) (by kernel_rfl) ?_ | refine Zone.wp_region_all (by kernel_rfl) (by kernel_rfl) ?_
                        repeat
                          refine Zone.wpZ_step (fun K hK => ?_)
                          go_simp
                          first
                          | (refine hK _ _ ?_; clear hK K)
                          | (apply Exists.intro
                             refine ⟨fun p => ?_, hK _ _ ?_⟩
                             (fail)
                             clear hK K)
                        refine Zone.wpZ_nil ?_
                        intro p
                        simp only [Zone.fill]
                        have HKP := Lib.hid (below_gro w6 p)
                        go_wp2
                        first | refine Zone.wp_region_all_gro (by kernel_rfl) (by kernel_rfl) ?_ | refine Zone.wp_region_all (by kernel_rfl) (by kernel_rfl) ?_
                        iterate 9
                          refine Zone.wpZ_step (fun K hK => ?_)
                          go_simp
                          (refine hK _ _ ?_; clear hK K)
                        refine Zone.wpZ_free 103 (OneR w6.heap.size n (oneF (kindS s) m.xs x)) rfl OneR.mono ?_ ?_
                        · intro p2
                          simp only [Zone.fill, Zone.lookFs, List.filter_nil]
                          go_simp
                          go_at_call 17
                          refine (HON.out _ ((HK'.out.trans HKL5.out).trans (by repeat (first | exact Keep.refl _ | apply Keep.alloc | apply Keep.gro | apply Keep.drew | apply Keep.drewN)))).mono ?_
                          rintro e w5 ⟨v5, rfl, hr5, hk5⟩
                          exact ⟨v5, rfl, oneR_of (hr5.base_mono (by first | (simp [size_gro]; done) | (simp [size_gro]; omega))) (by rw [oneF_len]; exact HNN.out) (by omega), hk5⟩
                        refine Zone.wpZ_free 21 (OneR w6.heap.size n (oneF (kindS s) m.xs x)) rfl OneR.mono ?_ ?_
                        · intro p2
                          rw [show Zone.lookFs _ _ _ = [(103, OneR w6.heap.size n (oneF (kindS s) m.xs x))] from rfl]
                          rintro v5 hv5
                          go_simp
                          (try exact ⟨hv5, Keep.refl _⟩)
                        refine Zone.wpZ_nil ?_
                        intro p2
                        simp only [Zone.fill]
                        rintro u21 hu21
                        change ∀ v, OneR w6.heap.size n (oneF (kindS s) m.xs x) v _ → Zone.fill _ [] _ _
                        rintro u103 hu103
                        simp only [Zone.fill]
                        clear hu103 HKP h0 h1 h2 h3 h4 y0 y1 z0 z1 HON
                        obtain ⟨A8, c8, rfl, ho8⟩ := hu21
                        generalize hw8 : World.gro _ p2 = w8 at ho8 ⊢
                        have hk8 : Keep w6 w8 := by rw [← hw8]; exact (by repeat (first | exact Keep.refl _ | apply Keep.alloc | apply Keep.gro | apply Keep.drew | apply Keep.drewN))
                        clear hw8
                        obtain ⟨o, hoe⟩ : ∃ o, oneF (kindS s) m.xs x = o := ⟨_, rfl⟩
                        have hol : o.length = n := by rw [← hoe, oneF_len]; exact HNN.out
                        rw [hoe] at ho8 HTK2
                        have hgm6 : gm < w6.heap.size := (HOL5.out.lt gm rfl).2
                        have HOL8 := Lib.hid (show OwnF w8 gm (.slice (some ⟨gm, 0, none⟩) n n) (andTo L o 0) by rw [andTo_zero]; exact HOL5.out.keep hk8)
                        have HO8 := Lib.hid ho8
                        have HKL8 := Lib.hid (HKL5.out.trans hk8)
                        have HGM6 := Lib.hid hgm6
                        have HOLEN := Lib.hid hol
                        have hz8 : w6.heap.size ≤ w8.heap.size := hk8.size
                        clear hk8 ho8 hoe hgm6 hol HOL5 HKL5
                        go_simp
                        go_wp2
                        go_loopw [22] (fun i wq => ∃ id : Nat, id ≤ n ∧ i = .int .i64 id ∧ Hid (OwnF wq gm (.slice (some ⟨gm, 0, none⟩) n n) (andTo L o id)) ∧ Hid (OwnF wq w6.heap.size (.slice A8 n c8) o) ∧ Hid (Keep wa wq)) (fun i _ => n - (intOf i).toNat)
                        case atStart => exact ⟨0, Nat.zero_le _, rfl, HOL8.out, HO8.out, HKL8.out⟩
                        case round =>
                          clear HOL8 HO8 HKL8
                          obtain ⟨id, hid, rfl, HO9, HP9, HK9⟩ := hrel
                          by_cases hlt2 : id < n
                          · have hol := HOLEN.out
                            have hln := HLN.out
                            have hlen : (andTo L o id).length = n := by rw [andTo_len L o id (by omega)]; exact hln
                            obtain ⟨c0, c1, c2, c3⟩ := own_cellF HO9.out hlen.symm id (by omega)
                            have hat := andTo_at L o id (by omega) (by omega)
                            rw [List.getElem?_eq_getElem (by omega), Option.some.injEq] at hat
                            rw [hat] at c0
                            have ho2 := own_setF HO9.out hlen.symm id (L[id] && o[id])
                            rw [andTo_set L o id (by omega) (by omega)] at ho2
                            have hos : Sl wr 1 boolV A8 c8 o := by
                              obtain ⟨A', c', e, hs⟩ := HP9.out.sl bool_len (by omega)
                              injection e with e1 _ e2
                              subst e1; subst e2
                              exact hs
                            obtain ⟨b8, off8, rfl, hc8⟩ := hos.at_ id (by omega)
                            have o0 := hc8 0 _ rfl
                            have hb8 := World.block_lt_of_cell? _ _ o0
                            have ho3 := HP9.out.grown (By.set wr ⟨gm, id, none⟩ (.bool (L[id] && o[id]))) (fun j e h => by
                              have h1 := (HP9.out.lt j h).1
                              injection e with e
                              simp only at e
                              have := HGM6.out
                              omega)
                            simp only [Nat.mul_one, Nat.add_zero] at o0 hb8
                            generalize L[id] = mb at c0 ho2 ho3
                            generalize o[id] = ob at o0 ho2 ho3
                            have HR3 := Lib.hid ho2
                            have HO3 := Lib.hid ho3
                            clear ho2 ho3 hat hlen hc8 hos HO9 HP9 hol hln c3
                            cases mb
                            all_goals
                              simp only [Bool.false_and, Bool.true_and] at HR3 HO3
                              go_wp2
                              go_roundw
                              case rel => exact ⟨id + 1, by omega, by go_num, HR3.out, HO3.out, HK9.out.setCell (Nat.le_of_eq HGM.out) _⟩
                              case measure => simp [intOf]; omega
                          · have hle : id = n := by omega
                            subst hle
                            have hol := HOLEN.out
                            have hln := HLN.out
                            have h9 := HO9.out
                            have e9 : andTo L o id = List.zipWith (· && ·) L o := by rw [← hln]; exact andTo_all L o (by omega)
                            rw [e9, ← HTK2.out] at h9
                            have HO10 := Lib.hid h9
                            have HL10 := Lib.hid (show ((ps.take (q + 1)).foldl (mayStep kindS (fun s => (pickM m0 m1 m2 s).xs) s) (List.replicate id true)).length = id by rw [HTK2.out]; simp; omega)
                            clear HO9 HP9 hol hln h9 e9
                            go_wp2
                            go_roundw
                            case rel =>
                              iterate 57 apply Exists.intro
                              refine And.intro ?_ rfl
                              exact ⟨q + 1, by have := HQP.out; omega, by go_num, _, rfl, HL10.out, HO10.out, HK9.out⟩
                              all_goals exact undef
                            case measure => simp [intOf]; omega
                      · have he : (ya.toList == za.toList) = false := by rw [HYL.out, HZL.out]; exact beq_eq_false_iff_ne.2 hts
                        have HTK2 := Lib.hid (show (ps.take (q + 1)).foldl (mayStep kindS (fun s => (pickM m0 m1 m2 s).xs) s) (List.replicate n true) = L by rw [HTK.out]; unfold mayStep; rw [HCXX.out]; simp [hts])
                        have y1 := World.block_lt_of_cell? _ _ y0
                        have z1 := World.block_lt_of_cell? _ _ z0
                        dsimp only at y1 z1
                        clear hts HTK HCXX HXI HXW HCX
                        go_wp2
                        first | refine Zone.wp_region_all_gro (by kernel_rfl) (by kernel_rfl) ?_ | refine Zone.wp_region_all (by kernel_rfl) (by kernel_rfl) ?_
                        repeat
                          refine Zone.wpZ_step (fun K hK => ?_)
                          go_simp
                          first
                          | (refine hK _ _ ?_; clear hK K)
                          | (apply Exists.intro
                             refine ⟨fun p => ?_, hK _ _ ?_⟩
                             (fail)
                             clear hK K)
                        refine Zone.wpZ_nil ?_
                        intro p
                        simp only [Zone.fill]
                        go_wp2
                        go_roundw
                        case rel =>
                          iterate 57 apply Exists.intro
                          refine And.intro ?_ rfl
                          exact ⟨q + 1, by have := HQP.out; omega, by go_num, L, HTK2.out.symm, HLN.out, HOL5.out.keep (below_gro _ p), HKL5.out.trans (below_gro _ p)⟩
                          all_goals exact undef
                        case measure => simp [intOf]; omega
                  · have hqe : q = ps.length := by omega
                    subst hqe
                    rw [List.take_length] at HL
                    have hll := HLN.out
                    have hgb : w3.heap.size ≤ gm := by have h1 := HK'.out.size; have h2 := HGM.out; omega
                    obtain ⟨r, hr⟩ : ∃ r : Rs, r = ⟨cs[k], gm, L⟩ := ⟨_, rfl⟩
                    obtain ⟨za, hze, hzl⟩ := enc_out (cs[k]'hlt)
                    have hf5 : OwnF wr w3.heap.size (.slice (some ⟨r.g, 0, none⟩) r.may.length r.may.length) r.may := by
                      subst hr
                      have h9 := HOL.out.base_mono hgb
                      dsimp only
                      rw [hll]; exact h9
                    have hrv : [.string za, .slice (some ⟨gm, 0, none⟩) n n] = [r].flatMap rsV := by
                      subst hr
                      simp only [rsV, List.flatMap_cons, List.flatMap_nil, List.append_nil, hll]
                      exact congrArg (fun x => [x, _]) hze.symm
                    have hrl5 := HRL'.out.keep HKL.out
                    have hne5 : ∀ x ∈ rs, x.g ≠ r.g := fun x hx e => by
                      have h1 := ((HRL'.out.may x hx).lt x.g rfl).2
                      have h2 : r.g = gm := by subst hr; rfl
                      have h3 := HGM.out
                      omega
                    have hrc : (r.col, r.may) = (s, mayTo kindS (fun s => (pickM m0 m1 m2 s).xs) s ps) := by
                      subst hr
                      refine Prod.ext HSK.out (HL.out.trans ?_)
                      unfold mayTo
                      dsimp only
                      rw [HM.out, HNN.out]
                    have hsx : Sl (wr.alloc (.cells #[.string za, .slice (some ⟨gm, 0, none⟩) n n] 62)) 2 rsV (some ⟨wr.heap.size, 0, none⟩) 1 [r] := by
                      have h6 : At (wr.alloc (.cells #[.string za, .slice (some ⟨gm, 0, none⟩) n n] 62)) wr.heap.size ([r].flatMap rsV) := by
                        rw [← hrv]; exact at_alloc _ [_, _] _
                      exact sl_blk (k := 2) (enc := rsV) (fun _ => rfl) h6 (by simp)
                    have HF5 := Lib.hid hf5
                    have HRL5 := Lib.hid hrl5
                    have HNE5 := Lib.hid hne5
                    have HRC := Lib.hid hrc
                    have HSX := Lib.hid hsx
                    have HKW5 := Lib.hid (HK'.out.trans HKL.out)
                    obtain ⟨g3, o3, hA3, hg3, z0⟩ := sl_nm (HS3.out.keep HKW5.out) k hlt
                    replace z0 := z0.trans (congrArg some hze)
                    subst hA3
                    clear hf5 hrv hrl5 hne5 hrc hsx hr hze hzl hll hgb HL HO1 HK1 HOL
                    go_wp2_with (at_builtin; refine Zone.hold ?_)
                    refine Zone.unhold ?_
                    have hrl : rs.length = k := by have := congrArg List.length HEQ.out; simp at this; omega
                    have hka : Keep wr (wr.alloc (.cells #[.string za, .slice (some ⟨gm, 0, none⟩) n n] 62)) := (Keep.refl _).alloc _
                    have hrl6 := HRL5.out.keep hka
                    have hf6 := HF5.out.keep hka
                    have HKA := Lib.hid (HKW5.out.trans hka)
                    refine wpList_app elt_rs rs_len rs_one rfl (.tmp 123) (.tmp 130) rfl (ys := [r]) hrl6.own rfl rfl HSX.out (by have := HCL.out; simp; omega) (by have := HKW5.out.size; simp; omega) ?_
                    intro v1 w7 hown7 hg7 _
                    have hrl7 : RL w7 w3.heap.size v1 (rs ++ [r]) := ⟨hown7, fun x hx => by
                      rcases List.mem_append.1 hx with hx | hx
                      · exact (hrl6.may x hx).grown hg7 (own_apartR hrl6.own (hrl6.may x hx))
                      · rw [List.mem_singleton.1 hx]
                        exact hf6.grown hg7 (own_apartR hrl6.own hf6), List.pairwise_append.2 ⟨hrl6.apart, by simp, fun x hx y hy => by rw [List.mem_singleton.1 hy]; exact HNE5.out x hx⟩⟩
                    have hmap : (rs ++ [r]).map (fun r => (r.col, r.may)) = (cs.take (k + 1)).map fun s => (s, mayTo kindS (fun s => (pickM m0 m1 m2 s).xs) s ps) := by
                      rw [List.map_append, HEQ.out, List.take_succ_eq_append_getElem HLT.out, List.map_append]
                      show _ ++ [(r.col, r.may)] = _
                      rw [HRC.out]
                      exact congrArg (fun t => List.map (fun s => (s, mayTo kindS (fun s => (pickM m0 m1 m2 s).xs) s ps)) (List.take k cs) ++ [(t, mayTo kindS (fun s => (pickM m0 m1 m2 s).xs) t ps)]) HSK.out.symm
                    have HMAP := Lib.hid hmap
                    have HK7 := Lib.hid (show Keep w3 w7 from HKA.out.grown hg7 (fun j e => by
                      exact (hrl6.own.lt j e).1))
                    obtain ⟨rs7, hrs7⟩ : ∃ rs7, rs ++ [r] = rs7 := ⟨_, rfl⟩
                    rw [hrs7] at hrl7 HMAP
                    have HRL7 := Lib.hid hrl7
                    have hl7 := hrl7.own.sl rs_len (by rw [← hrs7]; have := HCL.out; simp; omega)
                    have hcl := HCL.out
                    clear hmap hown7 hg7 hrl6 hf6 hka hrl7 hrs7
                    obtain ⟨A7, c7, rfl, _⟩ := hl7
                    go_wp2
                    go_roundw
                    case rel =>
                      exact ⟨k + 1, by have := HLT.out; omega, by go_num, _, HRL7.out, HMAP.out, HK7.out⟩
                    case measure => have := HLT.out; simp [intOf]; omega
      · have hke : k = cs.length := by omega
        subst hke
        rw [List.take_length] at HEQ
        have hrl : rs.length = cs.length := by have := congrArg List.length HEQ.out; simpa using this
        obtain ⟨A4, c4, rfl, _⟩ := HRL.out.own.sl rs_len (by have := HCL.out; omega)
        rw [hrl] at HRL ⊢
        obtain ⟨wa, hwa⟩ : ∃ wa, wa = wr := ⟨_, rfl⟩
        subst hwa
        clear hrl
        go_wp2
        go_loopw [12, 23] (fun s12 i wq => ∃ q : Nat, q ≤ ps.length ∧ i = .int .i64 q ∧ s12 = .bool (nothTo (ps.take q)) ∧ Hid (Keep wa wq)) (fun _ i _ => ps.length - (intOf i).toNat)
        case atStart => exact ⟨0, Nat.zero_le _, rfl, rfl, Keep.refl _⟩
        case round =>
          obtain ⟨q, hq, rfl, rfl, HKQ⟩ := hrel
          by_cases hqp : q < ps.length
          · have hpx := HPX.out ps HP2.out ps[q] (List.getElem_mem hqp)
            obtain ⟨g2, o2, rfl, hg2, h0, h1, h2, h3, h4⟩ := sl_nd (HS2'.out.keep (HK.out.trans HKQ.out)) q hqp
            have HQP := Lib.hid hqp
            have HNO := Lib.hid (nothTo_succ ps q hqp)
            have HNP := Lib.hid (show nothP ps[q] = ((colsOf ps[q]).isEmpty && !takesB [] [] ps[q]) from rfl)
            generalize ps[q] = x at hpx h0 h1 h2 h3 h4 HNO HNP
            obtain ⟨hxi, hxs, dx, hxw⟩ := hpx
            have hk3w : Keep w wa := HK3.out.trans HK.out
            have HCX := Lib.hid (fun W (hW : Keep wa W) => rcolumns_any w0 b0 x hxi W ((HK0.out.trans hk3w).trans hW) hxs)
            have hkl2 := hxi.kids_.len
            have hvl2 := hxi.vals_.len
            obtain ⟨tt, htt⟩ : ∃ tt, nothTo (ps.take q) = tt := ⟨_, rfl⟩
            rw [htt] at HNO ⊢
            clear htt
            rcases hcx : colsOf x with _ | ⟨t, r⟩
            · have HTX := Lib.hid (fun W (hW : Keep wa W) => (show Calls Tryz.prog 21 #[.slice none 0 0, x.v, .slice none 0 0] W fun e w' => e = .returned (.bool (takesB [] [] x)) ∧ Keep W w' by
                have h9 := rtakes_any W b0 none 0 [] none 0 [] (Sl.nil_ _ (Nat.zero_le _)) (Sl.nil_ _ (Nat.zero_le _)) rfl (by simp) x ((hxi.keep (HK0.out.trans hk3w)).keep hW) W dx (Keep.refl _) (wf_none hxw hcx)
                rw [takesR_none hxw hcx] at h9
                exact h9))
              rw [hcx] at HCX HNP
              have HNO2 := Lib.hid (show nothTo (ps.take (q + 1)) = (tt || !takesB [] [] x) by rw [HNO.out, HNP.out]; rfl)
              clear hcx HNO HNP hxi hxs hxw hk3w
              generalize takesB [] [] x = tb at HTX HNO2
              go_wp2_with (go_at_call 14; refine Zone.hold ?_)
              refine Zone.unhold ?_
              refine (HCX.out _ (HKQ.out.trans (by repeat (first | exact Keep.refl _ | apply Keep.alloc | apply Keep.gro | apply Keep.drew | apply Keep.drewN)))).mono ?_
              rintro e w6 ⟨A6, c6, rfl, _, hk6⟩
              obtain ⟨p6, rfl⟩ := gro_of_below _ hk6
              clear hk6 HCX
              go_wp2_with (go_at_call 21; refine Zone.hold ?_)
              refine Zone.unhold ?_
              refine (HTX.out _ (HKQ.out.trans (by repeat (first | exact Keep.refl _ | apply Keep.alloc | apply Keep.gro | apply Keep.drew | apply Keep.drewN)))).mono ?_
              rintro e w7 ⟨rfl, hk7⟩
              obtain ⟨p7, rfl⟩ := gro_of_below _ hk7
              clear hk7 HTX
              cases tb
              · go_wp2
                go_roundw
                case rel => exact ⟨q + 1, by have := HQP.out; omega, by go_num, congrArg Value.bool (by rw [HNO2.out]; simp), HKQ.out.trans (by repeat (first | exact Keep.refl _ | apply Keep.alloc | apply Keep.gro | apply Keep.drew | apply Keep.drewN))⟩
                case measure => have := HQP.out; simp [intOf]; omega
              · go_wp2
                go_roundw
                case rel => exact ⟨q + 1, by have := HQP.out; omega, by go_num, congrArg Value.bool (by rw [HNO2.out]; simp), HKQ.out.trans (by repeat (first | exact Keep.refl _ | apply Keep.alloc | apply Keep.gro | apply Keep.drew | apply Keep.drewN))⟩
                case measure => have := HQP.out; simp [intOf]; omega
            · rw [hcx] at HCX HNP
              have HNO2 := Lib.hid (show nothTo (ps.take (q + 1)) = tt by rw [HNO.out, HNP.out]; simp)
              have hcl2 : (t :: r).length ≤ 1000000 := by have := cols_len x; rw [hcx] at this; omega
              have hce : (((t :: r).length : Nat) : Int) = 0 ↔ False := by simp; omega
              obtain ⟨cl, hcle⟩ : ∃ cl, (t :: r).length = cl := ⟨_, rfl⟩
              rw [hcle] at HCX hcl2 hce
              have hcb : ((cl : Int) == 0) = false := by simpa using hce
              clear hcx HNO HNP hxi hxs hxw hk3w hcle hce
              go_wp2_with (go_at_call 14; refine Zone.hold ?_)
              refine Zone.unhold ?_
              refine (HCX.out _ (HKQ.out.trans (by repeat (first | exact Keep.refl _ | apply Keep.alloc | apply Keep.gro | apply Keep.drew | apply Keep.drewN)))).mono ?_
              rintro e w6 ⟨A6, c6, rfl, _, hk6⟩
              obtain ⟨p6, rfl⟩ := gro_of_below _ hk6
              clear hk6 HCX
              go_wp2
              go_roundw
              case rel => exact ⟨q + 1, by have := HQP.out; omega, by go_num, congrArg Value.bool HNO2.out.symm, HKQ.out.trans (by repeat (first | exact Keep.refl _ | apply Keep.alloc | apply Keep.gro | apply Keep.drew | apply Keep.drewN))⟩
              case measure => have := HQP.out; simp [intOf]; omega
          · have hqe : q = ps.length := by omega
            subst hqe
            rw [List.take_length]
            go_wp2
            exact bodyPost_ret (v := .tuple #[.slice A4 cs.length c4, .bool (nothTo ps), .bool true]) (by simp [results, Tryz.results12, go_sem]) rfl ⟨_, nothTo ps, true, rfl, .inr ⟨rfl, ps, rs, HP2.out, rfl, (HRL.out.keep HKQ.out).base_mono (Nat.le_of_lt hz3), HEQ.out⟩, HK3.out.trans (HK.out.trans HKQ.out)⟩
end Go.Proofs.YthigflnfccajoaaGreat
/- IdsRestrict: plain facts: what the rows hold, restrictions of like filters. -/
namespace Go.Proofs.YthigflnfccajoaaGreat
open Go.RowKit Go.Zone Go.Shelf
theorem dErr_kind {kind : Int} {xs : List Val} (h : dErr kind xs = 0) : ∀ y ∈ dOwn xs, y.k = kind := by
  unfold dErr at h
  split at h
  · cases h
  · split at h
    · cases h
    · split at h
      · cases h
      · rename_i h3
        intro y hy
        have h4 := h3
        simp only [List.any_eq_true, not_exists, not_and] at h4
        have := h4 y hy
        simpa using this
theorem row_ok {w : World} {P R : Value} {xs0 xs1 xs2 : List Val} {m0 m1 m2 : Mc} (h : Made w P R xs0 xs1 xs2 [m0, m1, m2]) (hw0 : ∀ x ∈ xs0, x.s.size ≤ maxLen) (hw1 : ∀ x ∈ xs1, x.s.size ≤ maxLen) (hw2 : ∀ x ∈ xs2, x.s.size ≤ maxLen) (s : Nm) : RowOk w s (pickM m0 m1 m2 s) := by
  have h0 := h.ok 0 (by simp)
  have h1 := h.ok 1 (by simp)
  have h2 := h.ok 2 (by simp)
  have f0 := h.fit 0 (by omega)
  have f1 := h.fit 1 (by omega)
  have f2 := h.fit 2 (by omega)
  have hp := pick_xs h s
  simp only [List.getElem_cons_zero, List.getElem_cons_succ] at h0 h1 h2
  refine ⟨hp.1.r, ?_, ?_, by omega⟩
  · unfold pickM kindS
    split
    · intro y hy
      rw [h0.2] at hy
      exact dErr_kind f0.2 y hy
    · split
      · intro y hy
        rw [h1.2] at hy
        exact dErr_kind f1.2 y hy
      · intro y hy
        rw [h2.2] at hy
        exact dErr_kind f2.2 y hy
  · unfold pickM
    split
    · intro y hy
      rw [h0.2] at hy
      exact hw0 y (((dOwn_sorted _).2 y).1 hy)
    · split
      · intro y hy
        rw [h1.2] at hy
        exact hw1 y (((dOwn_sorted _).2 y).1 hy)
      · intro y hy
        rw [h2.2] at hy
        exact hw2 y (((dOwn_sorted _).2 y).1 hy)
theorem rl_nil (w : World) (b : Nat) : RL w b (.slice none 0 0) [] := ⟨Own.nil_ _ _ _ _ _, fun r hr => (by cases hr), List.Pairwise.nil⟩
theorem rest_like {b1 b2 : Nat} {dk : Nm → Int} {dy : Nm → List Val} {f g : Nd} {va vb : Value} {na nb oka okb : Bool} {W1 W2 : World} (he : erase g = erase f) (h1 : RestR b1 dk dy g va na oka W1) (h2 : RestR b2 dk dy f vb nb okb W2) :
    oka = okb ∧ na = nb ∧ ∃ rs rs2, RL W1 b1 va rs ∧ RL W2 b2 vb rs2 ∧ rs.map (fun r => (r.col, r.may)) = rs2.map (fun r => (r.col, r.may)) ∧ rs.length ≤ f.sz ∧ ∀ r ∈ rs, r.may.length = (dy r.col).length := by
  rcases h1 with ⟨rfl, rfl, hp1, rfl⟩ | ⟨rfl, ps, rs, hp1, rfl, hr1, hm1⟩
  · rcases h2 with ⟨rfl, rfl, hp2, rfl⟩ | ⟨rfl, qs, rs2, hp2, rfl, hr2, hm2⟩
    · exact ⟨rfl, rfl, [], [], rl_nil _ _, rl_nil _ _, rfl, Nat.zero_le _, fun r hr => (by cases hr)⟩
    · rw [parts_like_none he] at hp1
      rw [hp1] at hp2
      cases hp2
  · rcases h2 with ⟨rfl, rfl, hp2, rfl⟩ | ⟨rfl, qs, rs2, hp2, rfl, hr2, hm2⟩
    · rw [← parts_like_none he] at hp2
      rw [hp2] at hp1
      cases hp1
    · have hlk := parts_like_some he hp1 hp2
      refine ⟨rfl, noth_like hlk, rs, rs2, hr1, hr2, ?_, ?_, fun r hr => rs_may_len hm1 r hr⟩
      · rw [hm1, hm2, cols_like he]
        exact List.map_congr_left fun s _ => by rw [may_like hlk]
      · rw [rs_len_cs hm1, cols_like he]
        exact cols_len f
theorem leaf_is_one {kind : Int} {ys : List Val} {n : Nd} (h : n.op = 4) : leafF kind ys n = oneF kind ys n := by rw [oneF_eq, if_pos h]
/-- A question's cells that holds a filter alone. -/
def qzC (n : Nd) : List Value := [.int .u8 n.op, .slice n.A n.kids.length n.c, .string n.col, .int .u8 n.cmp, .slice n.B n.vals.length n.d, .slice none 0 0, .slice none 0 0,
  .int .u8 0, .slice none 0 0, .int .i64 0, .int .u8 0, .int .u8 0, .int .i64 0, .string ⟨#[]⟩, .slice none 0 0, .int .i64 0]
end Go.Proofs.YthigflnfccajoaaGreat
