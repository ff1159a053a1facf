
/- ids.Restrict: a filter's restrictions. -/
import Derived.WalkKit
import Derived.Lib.Hide
import Derived.WalkSpells
import Derived.WalkLawsBesides
import Derived.BigQuiet
import Derived.Shelf.Abstract
import Derived.Test.YthigflnfccajoaaGreatIrest
namespace Go.Proofs.YthigflnfccajoaaGreat
open Go.RowKit Go.Zone Go.Shelf
attribute [local go_sem] Zone.zone Zone.stepZ Zone.fill Zone.lookFs Zone.goes Zone.goesUpon Zone.dropFs Zone.cell_gro Zone.frozen_gro Zone.size_gro Zone.lt_add Zone.drew_gro Zone.tape_gro Zone.keep_refl
attribute [local go_sem] Zone.lt_add2 Zone.lt_add3 Zone.lt_add4 Zone.lt_add5 Zone.lt_add6 Zone.lt_add7 Zone.lt_add8 Zone.lt_add9 Zone.lt_add10 Zone.lt_add11 Zone.lt_add12
attribute [local go_sem] Zone.calm_normal
section
variable {gf : Nat} {lb : Array Value} {db : Nm → Nat} {dk : Nm → Int} {dA : Nm → Option Addr} {dc : Nm → Nat} {dy : Nm → List Val}
theorem OfOk.keep {w w' : World} {S : List Nm} (h : OfOk w gf lb S db dk dA dc dy) (hk : Keep w w') : OfOk w' gf lb S db dk dA dc dy :=
  ⟨h.eg, fun W s hs hW => h.call W s hs (hk.trans hW), fun s hs => (h.at_ s hs).keep hk, h.kind, h.len⟩
set_option maxRecDepth 100000 in
set_option maxHeartbeats 8000000 in
theorem restrict_f (w0 : World) (b0 : Nat) (f : Nd) (hn : Nd.In w0 b0 f) (w : World) (hk0 : Keep w0 w) (hsz : f.sz ≤ 1000000) (hof : OfOk w gf lb (colsOf f) db dk dA dc dy) :
    Calls Tryz.prog 11 #[f.v, .func (.func gf) #[] lb] w fun e w' => ∃ v no ok, e = .returned (.tuple #[v, .bool no, .bool ok]) ∧ RestR w.heap.size dk dy f v no ok w' ∧ Keep w w' := by
  have HPA := Lib.hid (fun W (hW : Keep w W) => parts_f w0 b0 f hn W (hk0.trans hW) hsz)
  have HCO := Lib.hid (fun W (hW : Keep w W) => columns_any w0 b0 f hn W (hk0.trans hW) hsz)
  have HCL := Lib.hid (Nat.le_trans (cols_len f) hsz)
  have HPL := Lib.hid (fun L hL => Nat.le_trans (parts_len f L hL) hsz : ∀ L, partsOf f = some L → L.length ≤ 1000000)
  have HPC := Lib.hid (parts_cols f)
  have HPX := Lib.hid (show ∀ L, partsOf f = some L → ∀ x ∈ L, Nd.In w0 b0 x ∧ x.sz ≤ 1000000 from fun L hL x hx => ⟨parts_in hn L hL x hx, Nat.le_trans (parts_szx f L hL x hx) hsz⟩)
  have HND := Lib.hid (cols_nodup f)
  have HOF := Lib.hid hof
  have HK0 := Lib.hid hk0
  have hkl := hn.kids_.len
  have hvl := hn.vals_.len
  have eg := hof.eg
  obtain ⟨cs, hcs⟩ : ∃ cs, colsOf f = cs := ⟨_, rfl⟩
  have e0 : f.v = .agg #[.int .u8 f.op, .slice f.A f.kids.length f.c, .string f.col, .int .u8 f.cmp, .slice f.B f.vals.length f.d] := rfl
  unfold RestR
  rw [hcs] at HCO HCL HPC HND HOF ⊢
  rw [e0] at HPA HCO ⊢
  clear hn hk0 hsz hof hcs e0
  go_enter Tryz.func11, Tryz.ntmps11
  go_wp2_with (go_at_call 31; refine Zone.hold ?_)
  refine Zone.unhold ?_
  refine (HPA.out _ (by repeat (first | exact Keep.refl _ | apply Keep.alloc | apply Keep.gro | apply Keep.drew | apply Keep.drewN))).mono ?_
  rintro e w2 ⟨v2, ok2, rfl, hr2, hk2⟩
  obtain ⟨p2, rfl⟩ := gro_of_below _ hk2
  rcases hr2 with ⟨rfl, hn2, rfl⟩ | ⟨rfl, ps, hp2, ho2⟩
  · have HN2 := Lib.hid hn2
    clear hk2 hn2
    go_wp2
    exact bodyPost_ret (v := .tuple #[.slice none 0 0, .bool false, .bool false]) (by simp [results, Tryz.results11, go_sem]) rfl ⟨_, false, false, rfl, .inl ⟨rfl, rfl, HN2.out, rfl⟩, (by repeat (first | exact Keep.refl _ | apply Keep.alloc | apply Keep.gro | apply Keep.drew | apply Keep.drewN))⟩
  · have HP2 := Lib.hid hp2
    have hpl := HPL.out ps hp2
    obtain ⟨A2, c2, rfl, hs2⟩ := ho2.sl nd_len (by omega)
    have HS2 := Lib.hid hs2
    clear hk2 hp2 ho2 hs2
    have hb0 : w.heap.size < ((w.alloc (.cells #[.int .u8 f.op, .slice f.A f.kids.length f.c, .string f.col, .int .u8 f.cmp, .slice f.B f.vals.length f.d] 27)).gro p2).heap.size := by simp [size_gro]; omega
    go_wp2_with (go_at_call 32; refine Zone.hold ?_)
    refine Zone.unhold ?_
    refine (HCO.out _ (by repeat (first | exact Keep.refl _ | apply Keep.alloc | apply Keep.gro | apply Keep.drew | apply Keep.drewN))).mono ?_
    rintro e w3 ⟨v3, rfl, hown3, hk3⟩
    obtain ⟨A3, c3, rfl, hs3⟩ := hown3.sl nm_len (by have := HCL.out; omega)
    have HS3 := Lib.hid hs3
    have HS2' := Lib.hid (HS2.out.keep hk3)
    have HK3 := Lib.hid (Keep.trans (show Keep w _ from (by repeat (first | exact Keep.refl _ | apply Keep.alloc | apply Keep.gro | apply Keep.drew | apply Keep.drewN))) hk3)
    have hz3 : w.heap.size < w3.heap.size := Nat.lt_of_lt_of_le hb0 hk3.size
    clear hs3 hown3 hk3 hb0 HS2
    go_wp2
    go_loopw [4, 26] (fun v i wr => ∃ k : Nat, k ≤ cs.length ∧ i = .int .i64 k ∧ ∃ rs, Hid (RL wr w3.heap.size v rs) ∧ Hid (rs.map (fun r => (r.col, r.may)) = (cs.take k).map fun s => (s, List.replicate (dy s).length true)) ∧ Hid (Keep w3 wr)) (fun _ i _ => cs.length - (intOf i).toNat)
    case atStart => exact ⟨0, Nat.zero_le _, rfl, [], ⟨Own.nil_ _ _ _ _ _, fun r hr => (by cases hr), List.Pairwise.nil⟩, rfl, Keep.refl _⟩
    case round =>
      obtain ⟨k, hk, rfl, rs, HRL, HEQ, HK⟩ := hrel
      by_cases hlt : k < cs.length
      · obtain ⟨g, off, rfl, hg, h0⟩ := sl_nm (HS3.out.keep HK.out) k hlt
        --DEVCUT
        have hmem : cs[k] ∈ cs := List.getElem_mem hlt
        have HC := Lib.hid (fun W (hW : Keep wr W) => HOF.out.call W cs[k] hmem (HK3.out.trans (HK.out.trans hW)))
        have hkd := HOF.out.kind cs[k] hmem
        have HLEN := Lib.hid (fun W (hW : Keep wr W) => len_at W ((HOF.out.at_ cs[k] hmem).keep (HK3.out.trans (HK.out.trans hW))))
        simp only [if_neg (show dk cs[k] ≠ 0 by omega)] at HLEN
        have hdl := HOF.out.len cs[k] hmem
        go_wp2_with (first | (go_at_fn gf; refine (HC.out _ (by repeat (first | exact Keep.refl _ | apply Keep.alloc | apply Keep.gro | apply Keep.drew | apply Keep.drewN))).mono ?_; rintro e w' ⟨rfl, hkx⟩; obtain ⟨px, rfl⟩ := gro_of_below _ hkx; clear hkx) | (go_at_call 34; refine (HLEN.out _ (by repeat (first | exact Keep.refl _ | apply Keep.alloc | apply Keep.gro | apply Keep.drew | apply Keep.drewN))).mono ?_; rintro e w' ⟨rfl, rfl⟩) | (go_at_call 33; refine Zone.hold ?_))
        refine Zone.unhold ?_
        refine (all_f (dy cs[k]).length true _ hdl).mono ?_
        rintro e w5 ⟨rfl, hown5, hk5⟩
        obtain ⟨r, hr⟩ : ∃ r : Rs, r = ⟨cs[k], (wr.gro px).heap.size, List.replicate (dy cs[k]).length true⟩ := ⟨_, rfl⟩
        have hf5 : OwnF w5 w3.heap.size (.slice (some ⟨r.g, 0, none⟩) r.may.length r.may.length) r.may := by
          subst hr
          simp only [List.length_replicate]
          exact hown5.base_mono (by have := HK.out.size; simp [size_gro]; omega)
        have hrv : [encStr cs[k], .slice (some ⟨(wr.gro px).heap.size, 0, none⟩) (dy cs[k]).length (dy cs[k]).length] = [r].flatMap rsV := by subst hr; simp [rsV]
        have hkw5 : Keep wr w5 := Keep.trans (below_gro wr px) hk5
        have hrl5 := HRL.out.keep hkw5
        have hne5 : ∀ x ∈ rs, x.g ≠ r.g := fun x hx e => by
          have h1 := ((HRL.out.may x hx).lt x.g rfl).2
          have h2 : r.g = (wr.gro px).heap.size := by subst hr; rfl
          rw [e, h2] at h1
          simp [size_gro] at h1
          omega
        have hrc : (r.col, r.may) = (cs[k], List.replicate (dy cs[k]).length true) := by subst hr; rfl
        have hsx : Sl (w5.alloc (.cells #[encStr cs[k], .slice (some ⟨(wr.gro px).heap.size, 0, none⟩) (dy cs[k]).length (dy cs[k]).length] 62)) 2 rsV (some ⟨w5.heap.size, 0, none⟩) 1 [r] := by
          have h6 : At (w5.alloc (.cells #[encStr cs[k], .slice (some ⟨(wr.gro px).heap.size, 0, none⟩) (dy cs[k]).length (dy cs[k]).length] 62)) w5.heap.size ([r].flatMap rsV) := by
            rw [← hrv]; exact at_alloc _ [_, _] _
          exact sl_blk (k := 2) (enc := rsV) (fun _ => rfl) h6 (by simp)
        have HF5 := Lib.hid hf5
        have HRL5 := Lib.hid hrl5
        have HNE5 := Lib.hid hne5
        have HRC := Lib.hid hrc
        have HSX := Lib.hid hsx
        have HKW5 := Lib.hid (HK.out.trans hkw5)
        have HLT := Lib.hid hlt
        have hz5 : w.heap.size < w5.heap.size := by have := HKW5.out.size; omega
        simp only [size_gro] at HSX
        clear hown5 hk5 hf5 hrv hkw5 hrl5 hne5 hrc hsx hr
        go_wp2_with (at_builtin; refine Zone.hold ?_)
        refine Zone.unhold ?_
        have hrl : rs.length = k := by have := congrArg List.length HEQ.out; simp at this; omega
        have hka : Keep w5 (w5.alloc (.cells #[encStr cs[k], .slice (some ⟨wr.heap.size + px.os.size, 0, none⟩) (dy cs[k]).length (dy cs[k]).length] 62)) := (Keep.refl _).alloc _
        have hrl6 := HRL5.out.keep hka
        have hf6 := HF5.out.keep hka
        have HKA := Lib.hid (HKW5.out.trans hka)
        refine wpList_app elt_rs rs_len rs_one rfl (.tmp 30) (.tmp 38) rfl (ys := [r]) hrl6.own rfl rfl HSX.out (by have := HCL.out; simp; omega) (by have := HKW5.out.size; simp; omega) ?_
        intro v1 w7 hown7 hg7 _
        have hrl7 : RL w7 w3.heap.size v1 (rs ++ [r]) := ⟨hown7, fun x hx => by
          rcases List.mem_append.1 hx with hx | hx
          · exact (hrl6.may x hx).grown hg7 (own_apartR hrl6.own (hrl6.may x hx))
          · rw [List.mem_singleton.1 hx]
            exact hf6.grown hg7 (own_apartR hrl6.own hf6), List.pairwise_append.2 ⟨hrl6.apart, by simp, fun x hx y hy => by rw [List.mem_singleton.1 hy]; exact HNE5.out x hx⟩⟩
        have hmap : (rs ++ [r]).map (fun r => (r.col, r.may)) = (cs.take (k + 1)).map fun s => (s, List.replicate (dy s).length true) := by
          rw [List.map_append, HEQ.out, List.take_succ_eq_append_getElem HLT.out, List.map_append]
          show _ ++ [(r.col, r.may)] = _
          rw [HRC.out]; rfl
        have HMAP := Lib.hid hmap
        have HK7 := Lib.hid (show Keep w3 w7 from HKA.out.grown hg7 (fun j e => by
          exact (hrl6.own.lt j e).1))
        obtain ⟨rs7, hrs7⟩ : ∃ rs7, rs ++ [r] = rs7 := ⟨_, rfl⟩
        rw [hrs7] at hrl7 HMAP
        have HRL7 := Lib.hid hrl7
        have hl7 := hrl7.own.sl rs_len (by rw [← hrs7]; have := HCL.out; simp; omega)
        have hcl := HCL.out
        clear hmap hown7 hg7 hrl6 hf6 hka hrl7 hrs7
        obtain ⟨A7, c7, rfl, _⟩ := hl7
        go_wp2
        go_roundw
        case rel => exact ⟨k + 1, by omega, by go_num, _, HRL7.out, HMAP.out, HK7.out⟩
        case measure => simp [intOf]; omega
        --DEVEND
      · have : k = cs.length := by omega
        subst this
        rw [List.take_length] at HEQ
        have hrl : rs.length = cs.length := by have := congrArg List.length HEQ.out; simpa using this
        obtain ⟨A4, c4, rfl, _⟩ := HRL.out.own.sl rs_len (by have := HCL.out; omega)
        rw [hrl] at HRL ⊢
        have HRLEN := Lib.hid hrl
        clear hrl
        go_wp2
        go_loopw [5, 43] (fun s5 i wq => ∃ k : Nat, k ≤ ps.length ∧ i = .int .i64 k ∧ s5 = .bool (nothTo (ps.take k)) ∧ ∃ rs, Hid (RL wq w3.heap.size (.slice A4 cs.length c4) rs) ∧ Hid (rs.map (fun r => (r.col, r.may)) = cs.map fun s => (s, mayTo dk dy s (ps.take k))) ∧ Hid (Keep w3 wq)) (fun _ i _ => ps.length - (intOf i).toNat)
        case atStart => exact ⟨0, Nat.zero_le _, rfl, rfl, rs, HRL.out, HEQ.out, HK.out⟩
        case round =>
          rename_i wq0
          clear HRL HEQ HRLEN HK
          obtain ⟨k, hk, rfl, rfl, rs, HRL, HEQ, HK⟩ := hrel
          by_cases hlt : k < ps.length
          · obtain ⟨g, off, rfl, hg, h0, h1, h2, h3, h4⟩ := sl_nd (HS2'.out.keep HK.out) k hlt
            obtain ⟨hxi, hxs⟩ := HPX.out ps HP2.out ps[k] (List.getElem_mem hlt)
            obtain ⟨hpc1, hpc2⟩ := HPC.out ps HP2.out
            have hc1 := hpc1 ps[k] (List.getElem_mem hlt)
            have hc2 := hpc2 ps[k] (List.getElem_mem hlt)
            have HXI := Lib.hid hxi
            have HXS := Lib.hid hxs
            have HCX := Lib.hid (fun W (hW : Keep w W) => columns_any w0 b0 ps[k] hxi W (HK0.out.trans hW) hxs)
            have HTX := Lib.hid (fun W (hW : Keep w W) => takes_any (A := none) (c := 0) (cols := []) (F := none) (m := 0) (row := []) w0 b0 ps[k] hxi W (HK0.out.trans hW) (Sl.nil_ _ (Nat.zero_le _)) (Sl.nil_ _ (Nat.zero_le _)))
            have HNO := Lib.hid (nothTo_succ ps k hlt)
            have HMT := Lib.hid (fun s => mayTo_succ dk dy s ps k hlt)
            have HNP := Lib.hid (show nothP ps[k] = ((colsOf ps[k]).isEmpty && !takesB [] [] ps[k]) from rfl)
            have hkl2 := hxi.kids_.len
            have hvl2 := hxi.vals_.len
            obtain ⟨x, hx⟩ : ∃ x, ps[k] = x := ⟨_, rfl⟩
            rw [hx] at h0 h1 h2 h3 h4 HXI HXS HCX HTX HNO HMT HNP hc1 hc2 hkl2 hvl2
            clear hxi hxs hpc1 hpc2 hx
            have hk3w : Keep w wr := HK3.out.trans HK.out
            have HKW := Lib.hid hk3w
            have hq : ∃ q, nothTo (ps.take k) = q := ⟨_, rfl⟩
            obtain ⟨q, hq⟩ := hq
            rw [hq] at HNO ⊢
            rcases hcx : colsOf x with _ | ⟨s, rr⟩
            · rw [hcx] at HCX HNP
              --DEVCUT
              have hmt : ∀ s, mayTo dk dy s (ps.take (k + 1)) = mayTo dk dy s (ps.take k) := fun s => by rw [HMT.out s]; unfold mayStep; rw [hcx]; rfl
              have hmt2 : rs.map (fun r => (r.col, r.may)) = cs.map fun s => (s, mayTo dk dy s (ps.take (k + 1))) := by rw [HEQ.out]; exact List.map_congr_left fun s _ => by rw [hmt s]
              have HMT2 := Lib.hid hmt2
              have HNO2 := Lib.hid (show nothTo (ps.take (k + 1)) = (q || !takesB [] [] x) by rw [HNO.out, HNP.out]; rfl)
              have hpl2 := HPL.out ps HP2.out
              clear hmt hmt2 hq hcx HMT HNO HNP HEQ hc1 hc2 hk3w
              go_wp2_with (go_at_call 32; refine Zone.hold ?_)
              refine Zone.unhold ?_
              refine (HCX.out _ (HKW.out.trans (by repeat (first | exact Keep.refl _ | apply Keep.alloc | apply Keep.gro | apply Keep.drew | apply Keep.drewN)))).mono ?_
              rintro e w6 ⟨v6, rfl, hown6, hk6⟩
              obtain ⟨A6, c6, rfl, _⟩ := hown6.sl nm_len (by simp)
              obtain ⟨p6, rfl⟩ := gro_of_below _ hk6
              clear hown6 hk6 HCX
              cases q
              · go_wp2_with (go_at_call 35; refine Zone.hold ?_)
                refine Zone.unhold ?_
                have HT2 := HTX.out
                simp only [List.length_nil] at HT2
                refine (HT2 _ (HKW.out.trans (by repeat (first | exact Keep.refl _ | apply Keep.alloc | apply Keep.gro | apply Keep.drew | apply Keep.drewN)))).mono ?_
                rintro e w7 ⟨rfl, hk7⟩
                obtain ⟨p7, rfl⟩ := gro_of_below _ hk7
                clear hk7 HT2 HTX
                go_wp2
                go_roundw
                case rel => exact ⟨k + 1, by omega, by go_num, by rw [HNO2.out]; rfl, rs, HRL.out.keep (by repeat (first | exact Keep.refl _ | apply Keep.alloc | apply Keep.gro | apply Keep.drew | apply Keep.drewN)), HMT2.out, HK.out.trans (by repeat (first | exact Keep.refl _ | apply Keep.alloc | apply Keep.gro | apply Keep.drew | apply Keep.drewN))⟩
                case measure => simp [intOf]; omega
              · go_wp2
                go_roundw
                case rel => exact ⟨k + 1, by omega, by go_num, by rw [HNO2.out]; rfl, rs, HRL.out.keep (by repeat (first | exact Keep.refl _ | apply Keep.alloc | apply Keep.gro | apply Keep.drew | apply Keep.drewN)), HMT2.out, HK.out.trans (by repeat (first | exact Keep.refl _ | apply Keep.alloc | apply Keep.gro | apply Keep.drew | apply Keep.drewN))⟩
                case measure => simp [intOf]; omega
              --DEVEND
            · obtain rfl : rr = [] := by
                rw [hcx] at hc1
                cases rr with
                | nil => rfl
                | cons a b => simp at hc1
              rw [hcx] at HCX HNP
              have hsm : s ∈ cs := hc2 s (by rw [hcx]; simp)
              have hcols : rs.map (fun r => r.col) = cs := by
                have := congrArg (List.map Prod.fst) HEQ.out
                simpa [Function.comp_def] using this
              have hrl : rs.length = cs.length := by rw [← hcols]; simp
              have hge : 0 ≤ idxP (isRs s) rs 0 := Classical.byContradiction fun h => by
                have h1 := idxP_neg (isRs s) rs 0 h
                rw [List.find?_eq_none] at h1
                rw [← hcols, List.mem_map] at hsm
                obtain ⟨r, hr, e⟩ := hsm
                exact h1 r hr (by simp [isRs, e])
              obtain ⟨i, hi, he, hf⟩ := idxP_lt (isRs s) rs 0 hge
              have hcol : rs[i].col = s := by have := List.find?_some hf; simpa [isRs] using this
              have hrow : (rs[i].col, rs[i].may) = (cs[i]'(by omega), mayTo dk dy (cs[i]'(by omega)) (ps.take k)) := by
                have := congrArg (fun l => l[i]?) HEQ.out
                simp only [List.getElem?_map, List.getElem?_eq_getElem hi, List.getElem?_eq_getElem (show i < cs.length by omega), Option.map_some, Option.some.injEq] at this
                exact this
              have hcs : cs[i]'(by omega) = s := by rw [← hcol]; exact (Prod.mk.inj hrow).1.symm
              have hmay : rs[i].may = mayTo dk dy s (ps.take k) := by rw [(Prod.mk.inj hrow).2, hcs]
              have hml : rs[i].may.length = (dy s).length := by rw [hmay]; exact mayTo_len dk dy s _ _ (by simp)
              have hol : (oneF (dk s) (dy s) x).length = (dy s).length := oneF_len _ _ _
              have hmt2 : (rs.set i ⟨rs[i].col, rs[i].g, List.zipWith (· && ·) rs[i].may (oneF (dk s) (dy s) x)⟩).map (fun r => (r.col, r.may)) = cs.map fun s => (s, mayTo dk dy s (ps.take (k + 1))) := by
                rw [List.map_set, HEQ.out]
                apply List.ext_getElem
                · simp
                · intro j h1 h2
                  have hj : j < cs.length := by simpa using h2
                  rw [List.getElem_set]
                  simp only [List.getElem_map]
                  split
                  · rename_i e
                    subst e
                    rw [hcs, HMT.out s]
                    unfold mayStep
                    rw [hcx, hmay, hcol]
                    simp
                  · rename_i e
                    rw [HMT.out]
                    unfold mayStep
                    rw [hcx]
                    have hne : cs[j] ≠ s := fun e2 => e (by
                      have hp := List.pairwise_iff_getElem.1 HND.out
                      rcases Nat.lt_or_gt_of_ne e with e' | e'
                      · exact (hp i j (by omega) hj e' (hcs.trans e2.symm)).elim
                      · exact (hp j i hj (by omega) e' (e2.trans hcs.symm)).elim)
                    rw [if_neg (by simp; exact fun e3 => hne e3.symm)]
              have HMT2 := Lib.hid hmt2
              have HNO2 := Lib.hid (show nothTo (ps.take (k + 1)) = q by rw [HNO.out, HNP.out]; simp)
              have hpl2 := HPL.out ps HP2.out
              have HGE := Lib.hid he
              have HML := Lib.hid hml
              have HOL := Lib.hid hol
              have HRLL := Lib.hid hrl
              have HCA := Lib.hid (fun W (hW : Keep w W) => HOF.out.call W s hsm hW)
              have hkd := HOF.out.kind s hsm
              have hdl := HOF.out.len s hsm
              have HON := Lib.hid (fun W (hW : Keep w W) => one_f (db s) (dk s) (dA s) (dc s) (dy s) w0 b0 x HXI.out hkd hdl W (HK0.out.trans hW) ((HOF.out.at_ s hsm).keep hW) HXS.out)
              have HIL := Lib.hid hi
              clear hmt2 hq hcx HMT HNO HNP HEQ hc1 hc2 hk3w HTX hsm hcols hge he hf hcol hrow hcs hmay hkd
              go_wp2_with (go_at_call 32; refine Zone.hold ?_)
              refine Zone.unhold ?_
              refine (HCX.out _ (HKW.out.trans (by repeat (first | exact Keep.refl _ | apply Keep.alloc | apply Keep.gro | apply Keep.drew | apply Keep.drewN)))).mono ?_
              rintro e w6 ⟨v6, rfl, hown6, hk6⟩
              obtain ⟨A6, c6, rfl, hs6⟩ := hown6.sl nm_len (by simp)
              obtain ⟨p6, rfl⟩ := gro_of_below _ hk6
              have HS6 := Lib.hid hs6
              clear hown6 hk6 HCX hs6
              obtain ⟨b6, off6, rfl, hb6, e6⟩ := sl_nm HS6.out 0 (by simp)
              obtain ⟨b4, off4, rfl, hb4, _, _⟩ := sl_rs (HRL.out.sl HRLL.out.symm (by have := HCL.out; omega)) i HIL.out
              have HIX := Lib.hid (show ∀ (W : World) (b : Nat), Keep wr W → W.cell? ⟨b, 0, none⟩ = some (.slice (some ⟨b6, off6, none⟩) 1 c6) → Sl W 1 nmV (some ⟨b6, off6, none⟩) c6 [s] → Calls Tryz.prog 36 #[.slice (some ⟨b4, off4, none⟩) cs.length c4, .func (.func 37) #[] #[.pointer (some ⟨b, 0, none⟩)]] W fun e w' => e = .returned (.int .i64 ((i : Nat) : Int)) ∧ Keep W w' from fun W b hW hc hs => by
                have h1 := indexRs_any (some ⟨b4, off4, none⟩) c4 rs 37 #[.pointer (some ⟨b, 0, none⟩)] (isRs s) W (enters_of Tryz.func37 (by kernel_rfl) rfl) ((HRL.out.keep hW).sl HRLL.out.symm (by have := HCL.out; omega)) (fun W2 r hk2 => rest1_any r b (some ⟨b6, off6, none⟩) c6 [s] s W2 ((hk2.cell (World.block_lt_of_cell? _ _ hc)).trans hc) (hs.keep hk2) rfl)
                rw [HRLL.out, HGE.out, Nat.zero_add] at h1
                exact h1)
              simp only [List.getElem_cons_zero, Nat.add_zero, size_gro, World.size_alloc] at e6 hb6
              go_wp2_with (go_at_call 36; refine Zone.hold ?_)
              refine Zone.unhold ?_
              refine (HIX.out _ _ (by repeat (first | exact Keep.refl _ | apply Keep.alloc | apply Keep.gro | apply Keep.drew | apply Keep.drewN)) (by go_simp) (HS6.out.keep (by repeat (first | exact Keep.refl _ | apply Keep.alloc | apply Keep.gro | apply Keep.drew | apply Keep.drewN)))).mono ?_
              rintro e w' ⟨rfl, hk7⟩
              obtain ⟨p7, rfl⟩ := gro_of_below _ hk7
              clear hk7 HIX HGE HS6
              go_wp2
              first | refine Zone.wp_region_all_gro (by kernel_rfl) (by kernel_rfl) ?_ | refine Zone.wp_region_all (by kernel_rfl) (by kernel_rfl) ?_
              repeat
                refine Zone.wpZ_step (fun K hK => ?_)
                go_simp
                first
                | (refine hK _ _ ?_; clear hK K)
                | (apply Exists.intro
                   refine ⟨fun p => ?_, hK _ _ ?_⟩
                   ((go_at_fn gf; exact Zone.zc (HCA.out _ (HKW.out.trans (by repeat (first | exact Keep.refl _ | apply Keep.alloc | apply Keep.gro | apply Keep.drew | apply Keep.drewN))))))
                   clear hK K)
              refine Zone.wpZ_free 67 (OneR wr.heap.size (dy s).length (oneF (dk s) (dy s) x)) rfl OneR.mono ?_ ?_
              · intro p
                simp only [Zone.fill, Zone.lookFs, List.filter_nil]
                go_simp
                go_at_call 16
                refine (HON.out _ (HKW.out.trans (by repeat (first | exact Keep.refl _ | apply Keep.alloc | apply Keep.gro | apply Keep.drew | apply Keep.drewN)))).mono ?_
                rintro e w5 ⟨v5, rfl, hr5, hk5⟩
                exact ⟨v5, rfl, hr5.base (by simp [size_gro]; omega), hk5⟩
              refine Zone.wpZ_step (fun K hK => ?_)
              refine Zone.zone_free1 (.int .i64 (dy s).length) (d := 67) (by rfl) (fun p u hu => ?_) (hK _ _ ?_)
              · obtain ⟨A, c, rfl, _⟩ := hu
                go_simp
              refine Zone.wpZ_step (fun K hK => ?_)
              unfold Zone.zone Zone.stepZ
              rw [Zone.lookFs_nil (by rfl)]
              go_simp
              (refine hK _ _ ?_; clear hK K)
              refine Zone.wpZ_nil ?_
              intro p
              simp only [Zone.fill]
              clear hK K
              rintro u67 ⟨A8, c8, rfl, ho8⟩
              generalize hw8 : World.gro _ p = w8 at ho8 ⊢
              have hk8 : Keep wr w8 := by rw [← hw8]; exact (by repeat (first | exact Keep.refl _ | apply Keep.alloc | apply Keep.gro | apply Keep.drew | apply Keep.drewN))
              clear hw8
              obtain ⟨o, hoe⟩ : ∃ o, oneF (dk s) (dy s) x = o := ⟨_, rfl⟩
              have hii := HIL.out
              obtain ⟨m, hme⟩ : ∃ m, m = rs[i].may := ⟨_, rfl⟩
              rw [hoe] at ho8 HMT2 HOL
              have HMT3 := Lib.hid (show List.map (fun r => (r.col, r.may)) (rs.set i ⟨rs[i].col, rs[i].g, List.zipWith (· && ·) m o⟩) = cs.map fun s => (s, mayTo dk dy s (ps.take (k + 1))) by rw [hme]; exact HMT2.out)
              have HML2 := Lib.hid (show m.length = (dy s).length by rw [hme]; exact HML.out)
              obtain ⟨d, hde⟩ : ∃ d, (dy s).length = d := ⟨_, rfl⟩
              rw [hde] at ho8 HOL HML2 hdl ⊢
              have hr8 := HRL.out.keep hk8
              have hself : rs.set i ⟨rs[i].col, rs[i].g, andTo m o 0⟩ = rs := by
                rw [andTo_zero, hme]
                exact List.set_getElem_self _
              rw [← hself] at hr8
              have hg8 : rs[i].g < wr.heap.size := (own_lt_of HRL.out i HIL.out)
              have HR8 := Lib.hid hr8
              have HO8 := Lib.hid ho8
              have HK8 := Lib.hid (HK.out.trans hk8)
              have HG8 := Lib.hid hg8
              have hz8 : wr.heap.size ≤ w8.heap.size := hk8.size
              have hlm : m.length = d := HML2.out
              have hlo : o.length = d := HOL.out
              clear hk8 hr8 ho8 hself hoe hme hde hg8 HRL HK HON HCA HML HML2 HMT2 hml hol HOL
              go_simp
              go_wp2
              obtain ⟨wa, hwa⟩ : ∃ wa, wa = wr := ⟨_, rfl⟩
              subst hwa
              go_loopw [69] (fun j wq => ∃ id : Nat, id ≤ d ∧ j = .int .i64 id ∧ Hid (RL wq w3.heap.size (.slice (some ⟨b4, off4, none⟩) cs.length c4) (rs.set i ⟨rs[i].col, rs[i].g, andTo m o id⟩)) ∧ Hid (OwnF wq wa.heap.size (.slice A8 d c8) o) ∧ Hid (Keep w3 wq) ∧ wa.heap.size ≤ wq.heap.size) (fun j _ => d - (intOf j).toNat)
              case atStart => exact ⟨0, Nat.zero_le _, rfl, HR8.out, HO8.out, HK8.out, hz8⟩
              case round =>
                clear HR8 HO8 HK8
                obtain ⟨id, hid, rfl, HR9, HO9, HK9, hz9⟩ := hrel
                by_cases hlt2 : id < d
                · have hlen : (andTo m o id).length = m.length := andTo_len m o id (by omega)
                  obtain ⟨hb9, r1, c0, c1, c2, c3, hset⟩ := HR9.out.at_set (m := andTo m o id) hii HRLL.out.symm (by have := HCL.out; omega) id (by omega)
                  have hat := andTo_at m o id (by omega) (by omega)
                  rw [List.getElem?_eq_getElem (by omega), Option.some.injEq] at hat
                  rw [hat] at c0
                  rw [hlen, hlm] at r1
                  have h3 := fun W (hW : Keep wr W) => ((HR9.out.keep hW).at_set (m := andTo m o id) hii HRLL.out.symm (by have := HCL.out; omega) id (by omega)).2.2.2.2.2.2 (m[id] && o[id])
                  rw [andTo_set m o id (by omega) (by omega)] at h3
                  have hos : Sl wr 1 boolV A8 c8 o := by
                    obtain ⟨A', c', e, hs⟩ := HO9.out.sl bool_len (by omega)
                    injection e with e1 _ e2
                    subst e1; subst e2
                    exact hs
                  obtain ⟨b8, off8, rfl, hc8⟩ := hos.at_ id (by omega)
                  have o0 := hc8 0 _ rfl
                  have hb8 := World.block_lt_of_cell? _ _ o0
                  have ho3 := fun W (hW : Keep wr W) => (HO9.out.keep hW).grown (By.set W ⟨rs[i].g, id, none⟩ (.bool (m[id] && o[id]))) (fun j e h => by
                    have h1 := (HO9.out.lt j h).1
                    injection e with e
                    simp only at e
                    have := HG8.out
                    omega)
                  simp only [Nat.mul_one, Nat.add_zero] at o0 hb8
                  generalize m[id] = mb at c0 h3 ho3
                  generalize o[id] = ob at o0 h3 ho3
                  have HR3 := Lib.hid h3
                  have HO3 := Lib.hid ho3
                  have HGE3 := Lib.hid (show w3.heap.size ≤ rs[i].g from c3)
                  clear h3 ho3 hset hat hlen hc8 hos HR9 HO9
                  generalize rs[i].g = gm at r1 c0 c1 c2 HR3 HO3 HGE3
                  have hic : i < cs.length := by have := HIL.out; have := HRLL.out; omega
                  have hcl := HCL.out
                  cases mb
                  · simp only [Bool.false_and] at HR3 HO3
                    go_wp2
                    first | refine Zone.wp_region_gro 18 (by kernel_rfl) (by kernel_rfl) ?_ | refine Zone.wp_region 18 (by kernel_rfl) (by kernel_rfl) ?_
                    simp only [List.take_succ_cons, List.take_zero, List.drop_succ_cons, List.drop_zero]
                    repeat
                      refine Zone.wpZ_step (fun K hK => ?_)
                      go_simp
                      first
                      | (refine hK _ _ ?_; clear hK K)
                      | (apply Exists.intro
                         refine ⟨fun p => ?_, hK _ _ ?_⟩
                         (fail)
                         clear hK K)
                    refine Zone.wpZ_nil ?_
                    intro p
                    simp only [Zone.fill]
                    go_wp2
                    go_roundw
                    case rel => exact ⟨id + 1, by omega, by go_num, HR3.out _ (by repeat (first | exact Keep.refl _ | apply Keep.alloc | apply Keep.gro | apply Keep.drew | apply Keep.drewN)), HO3.out _ (by repeat (first | exact Keep.refl _ | apply Keep.alloc | apply Keep.gro | apply Keep.drew | apply Keep.drewN)), (HK9.out.trans (by repeat (first | exact Keep.refl _ | apply Keep.alloc | apply Keep.gro | apply Keep.drew | apply Keep.drewN))).setCell HGE3.out _, by simp [size_gro]; omega⟩
                    case measure => simp [intOf]; omega
                  · simp only [Bool.true_and] at HR3 HO3
                    go_wp2
                    first | refine Zone.wp_region_gro 18 (by kernel_rfl) (by kernel_rfl) ?_ | refine Zone.wp_region 18 (by kernel_rfl) (by kernel_rfl) ?_
                    simp only [List.take_succ_cons, List.take_zero, List.drop_succ_cons, List.drop_zero]
                    repeat
                      refine Zone.wpZ_step (fun K hK => ?_)
                      go_simp
                      first
                      | (refine hK _ _ ?_; clear hK K)
                      | (apply Exists.intro
                         refine ⟨fun p => ?_, hK _ _ ?_⟩
                         (fail)
                         clear hK K)
                    refine Zone.wpZ_nil ?_
                    intro p
                    simp only [Zone.fill]
                    go_wp2
                    go_roundw
                    case rel => exact ⟨id + 1, by omega, by go_num, HR3.out _ (by repeat (first | exact Keep.refl _ | apply Keep.alloc | apply Keep.gro | apply Keep.drew | apply Keep.drewN)), HO3.out _ (by repeat (first | exact Keep.refl _ | apply Keep.alloc | apply Keep.gro | apply Keep.drew | apply Keep.drewN)), (HK9.out.trans (by repeat (first | exact Keep.refl _ | apply Keep.alloc | apply Keep.gro | apply Keep.drew | apply Keep.drewN))).setCell HGE3.out _, by simp [size_gro]; omega⟩
                    case measure => simp [intOf]; omega
                · have hr9 := HR9.out
                  rw [show id = m.length by omega, andTo_all m o (by omega)] at hr9
                  have HR4 := Lib.hid hr9
                  clear hr9 HR9 HO9
                  go_wp2
                  go_roundw
                  case rel => exact ⟨k + 1, by omega, by go_num, by rw [HNO2.out], _, HR4.out, HMT3.out, HK9.out⟩
                  case measure => simp [intOf]; omega
          · have : k = ps.length := by omega
            subst this
            rw [List.take_length] at HEQ ⊢
            go_wp2
            exact bodyPost_ret (v := .tuple #[.slice A4 cs.length c4, .bool (nothTo ps), .bool true]) (by simp [results, Tryz.results11, go_sem]) rfl ⟨_, nothTo ps, true, rfl, .inr ⟨rfl, ps, rs, HP2.out, rfl, HRL.out.base_mono (Nat.le_of_lt hz3), HEQ.out⟩, HK3.out.trans HK.out⟩
end
end Go.Proofs.YthigflnfccajoaaGreat
