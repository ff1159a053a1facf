
/- ids.One: which ids a filter of one column takes. -/
import Derived.WalkKit
import Derived.Lib.Hide
import Derived.WalkSpells
import Derived.WalkLawsBesides
import Derived.BigQuiet
import Derived.Shelf.Abstract
import Derived.Test.YthigflnfccajoaaIone
namespace Go.Proofs.Ythigflnfccajoaa
open Go.RowKit Go.Zone Go.Shelf
attribute [local go_sem] Zone.zone Zone.stepZ Zone.fill Zone.lookFs Zone.goes Zone.goesUpon Zone.dropFs Zone.cell_gro Zone.frozen_gro Zone.size_gro Zone.lt_add Zone.drew_gro Zone.tape_gro Zone.keep_refl
attribute [local go_sem] Zone.lt_add2 Zone.lt_add3 Zone.lt_add4 Zone.lt_add5 Zone.lt_add6 Zone.lt_add7 Zone.lt_add8 Zone.lt_add9 Zone.lt_add10 Zone.lt_add11 Zone.lt_add12
attribute [local go_sem] Zone.calm_normal
/-- What One gives. -/
def OneR (base n : Nat) (L : List Bool) (v : Value) (W : World) : Prop := ∃ A c, v = .slice A n c ∧ OwnF W base (.slice A n c) L
theorem OneR.mono {base n : Nat} {L : List Bool} : Mono (OneR base n L) := fun _ _ _ hk ⟨A, c, h1, h2⟩ => ⟨A, c, h1, h2.keep hk⟩
theorem oneR_of {W : World} {base n : Nat} {L : List Bool} {v : Value} (h : OwnF W base v L) (hl : L.length = n) (hn : n ≤ 1000000) : OneR base n L v W := by
  obtain ⟨A, c, rfl, _⟩ := h.sl bool_len (by omega)
  subst hl
  exact ⟨A, c, rfl, h⟩
theorem OneR.base {W : World} {b1 b2 n : Nat} {L : List Bool} {v : Value} (h : OneR b1 n L v W) (hs : b2 ≤ b1) : OneR b2 n L v W := by
  obtain ⟨A, c, h1, h2⟩ := h
  exact ⟨A, c, h1, h2.base_mono hs⟩
def OneAt (b : Nat) (kind : Int) (ys : List Val) (k : Nd) (w : World) : Prop :=
  ∀ W, Keep w W → Calls Try.prog 80 #[.pointer (some ⟨b, 0, none⟩), k.v] W fun e w' => ∃ v, e = .returned v ∧ OneR W.heap.size ys.length (oneF kind ys k) v w' ∧ Keep W w'
set_option maxRecDepth 100000 in
set_option maxHeartbeats 4000000 in
theorem one_f (b : Nat) (kind : Int) (A : Option Addr) (c : Nat) (ys : List Val) (w0 : World) (b0 : Nat) (n : Nd) (hn : Nd.In w0 b0 n) (hkk : kind = 1 ∨ kind = 2) (hyl : ys.length ≤ 1000000) : ∀ (w : World), Keep w0 w → DictAt w b kind A c ys → n.sz ≤ 1000000 →
    Calls Try.prog 80 #[.pointer (some ⟨b, 0, none⟩), n.v] w fun e w' => ∃ v, e = .returned v ∧ OneR w.heap.size ys.length (oneF kind ys n) v w' ∧ Keep w w' := by
  induction hn with
  | mk n hk hv hA hB hi ih =>
  intro w hk0 hat hsz
  have hkne : kind ≠ 0 := by omega
  have HS := Lib.hid (hk.keep hk0)
  have hkl := hk.len
  have hvl := hv.len
  have HAT := Lib.hid hat
  have HLEN := Lib.hid (fun W (hW : Keep w W) => len_at W (hat.keep hW))
  simp only [if_neg hkne] at HLEN
  have HLF := Lib.hid (fun W (hW : Keep w W) => leaf_f b kind A c ys w0 b0 n (.mk n hk hv hA hB hi) W (hk0.trans hW) (hat.keep hW) hkk hyl)
  have HKL := Lib.hid (show n.kids.length ≤ 1000000 from by
    have h1 := sz_eq n
    have h2 : ∀ l : List Nd, l.length ≤ (l.map Nd.sz).sum := fun l => by
      induction l with
      | nil => simp
      | cons x r ih => have := sz_eq x; simp only [List.length_cons, List.map_cons, List.sum_cons]; omega
    have := h2 n.kids
    omega)
  have IH := Lib.hid (show ∀ k ∈ n.kids, OneAt b kind ys k w from fun k hk W hW => ih k hk W (hk0.trans hW) (hat.keep hW) (by have := sz_mem n.kids k hk; have := sz_eq n; omega))
  clear hk hv hA hB hi ih hk0 hat hsz hkk hkne
  obtain ⟨op, KA, kc, kids, col, cmp, VB, vd, vals⟩ := n
  simp only [Nd.v] at hkl hvl HS IH HLF HKL ⊢
  rw [oneF_eq]
  simp only
  by_cases h4 : op = 4
  · subst h4
    rw [if_pos rfl]
    have hll : (leafF kind ys ⟨4, KA, kc, kids, col, cmp, VB, vd, vals⟩).length = ys.length := by simp [leafF]
    have HLL := Lib.hid hll
    clear hll
    generalize leafF kind ys _ = L at HLF HLL ⊢
    go_enter Try.func80, Try.ntmps80
    go_wp2_with (go_at_call 11; refine Zone.hold ?_)
    refine Zone.unhold ?_
    refine (HLF.out _ (by repeat (first | exact Keep.refl _ | apply Keep.alloc | apply Keep.gro | apply Keep.drew | apply Keep.drewN))).mono ?_
    rintro e w2 ⟨v, rfl, hown, hk⟩
    have HR := Lib.hid (oneR_of hown HLL.out hyl)
    have HK := Lib.hid (Keep.trans (show Keep w _ from (by repeat (first | exact Keep.refl _ | apply Keep.alloc | apply Keep.gro | apply Keep.drew | apply Keep.drewN))) hk)
    clear hown hk
    go_wp2
    go_ret
    exact ⟨v, rfl, HR.out.base (by simp), HK.out⟩
  · have d4 : (op == 4) = false := by simpa using h4
    rw [if_neg h4]
    clear h4 HLF
    have HEQ := Lib.hid (show eachL = eachL from rfl)
    obtain ⟨R, hR⟩ : ∃ R, (if op = 1 then eachL ys.length (List.map (oneF kind ys) kids) fun t => t == kids.length else if op = 2 then eachL ys.length (List.map (oneF kind ys) kids) fun t => decide (0 < t) else if op = 3 then eachL ys.length (List.map (oneF kind ys) kids) fun t => t == 0 else List.replicate ys.length true) = R := ⟨_, rfl⟩
    rw [hR]
    have HRE := Lib.hid hR
    clear hR HEQ
    go_enter Try.func80, Try.ntmps80
    go_wp2
    go_loopw [7, 17] (fun _ i wr => ∃ k : Nat, k ≤ kids.length ∧ i = .int .i64 k ∧ ∃ v ss, Hid (Sets wr (w.heap.size + 1) (w.heap.size + 1 + 1) v ss ((kids.take k).map (oneF kind ys)) ys.length) ∧ Hid (At wr w.heap.size [.int .u8 op, .slice KA kids.length kc, .string col, .int .u8 cmp, .slice VB vals.length vd]) ∧ Hid (Keep w wr) ∧ w.heap.size + 1 < wr.heap.size) (fun _ i _ => kids.length - (intOf i).toNat)
    case atStart =>
      refine ⟨0, Nat.zero_le _, rfl, .slice none 0 0, [], ⟨by simp [go_sem], by simp [go_sem], Own.nil_ _ _ _ _ _, fun s hs => (by cases hs), rfl⟩, ?_, (by repeat (first | exact Keep.refl _ | apply Keep.alloc | apply Keep.gro | apply Keep.drew | apply Keep.drewN)), by simp⟩
      show At _ _ _
      (intro j u hu; rcases j with _ | _ | _ | _ | _ | _ | _ | j <;> first | (cases hu; simp [go_sem]; done) | (exact absurd hu (by simp)))
    case round =>
      obtain ⟨k, hk, rfl, v, ss, HSS, HX, HK, hz⟩ := hrel
      by_cases hlt : k < kids.length
      · obtain ⟨g, off, rfl, hg, h0, h1, h2, h3, h4⟩ := sl_nd (HS.out.keep HK.out) k hlt
        have HC := Lib.hid (fun W (hW : Keep wr W) => IH.out kids[k] (List.getElem_mem hlt) W (HK.out.trans hW))
        have hv0 := HSS.out.cell
        have hl0 : w.heap.size < wr.heap.size := by omega
        have HLI := Lib.hid hlt
        go_wp2
        first | refine Zone.wp_region_gro 5 (by kernel_rfl) (by kernel_rfl) ?_ | refine Zone.wp_region 5 (by kernel_rfl) (by kernel_rfl) ?_
        simp only [List.take_succ_cons, List.take_zero, List.drop_succ_cons, List.drop_zero]
        iterate 3
          refine Zone.wpZ_step (fun K hK => ?_)
          go_simp
          (refine hK _ _ ?_; clear hK K)
        refine Zone.wpZ_free 24 (OneR (w.heap.size + 1 + 1) ys.length (oneF kind ys kids[k])) rfl OneR.mono ?_ ?_
        · intro p
          simp only [Zone.fill, Zone.lookFs, List.filter_nil]
          go_simp
          go_at_call 80
          refine (HC.out _ (by repeat (first | exact Keep.refl _ | apply Keep.alloc | apply Keep.gro | apply Keep.drew | apply Keep.drewN))).mono ?_
          rintro e w5 ⟨v5, rfl, hr5, hk5⟩
          exact ⟨v5, rfl, hr5.base (by simp [size_gro]; omega), hk5⟩
        refine Zone.wpZ_free 25 (fun u W => ∃ g s, u = .slice (some ⟨g, 0, none⟩) 1 1 ∧ Sl W 1 flV (some ⟨g, 0, none⟩) 1 [s] ∧ OwnF W (w.heap.size + 1 + 1) (.slice s.A s.xs.length s.c) s.xs ∧ s.xs = oneF kind ys kids[k]) rfl (fun _ W W' hk ⟨g, s, h1, h2, h3, h4⟩ => ⟨g, s, h1, h2.keep hk, h3.keep hk, h4⟩) ?_ ?_
        · intro p
          rw [show Zone.lookFs _ _ _ = [(24, OneR (w.heap.size + 1 + 1) ys.length (oneF kind ys kids[k]))] from rfl]
          rintro v5 ⟨A5, c5, rfl, hr5⟩
          go_simp
          refine ⟨⟨⟨A5, c5, oneF kind ys kids[k]⟩, ?_, ?_, rfl⟩, Keep.alloc (Keep.refl _) _⟩
          · have h7 : [(⟨A5, c5, oneF kind ys kids[k]⟩ : Fl)].flatMap flV = [Value.slice A5 ys.length c5] := by simp [flV, oneF_len]
            have h6 : At (((wr.alloc (.cells #[.int .u8 kids[k].op, .slice kids[k].A kids[k].kids.length kids[k].c, .string kids[k].col, .int .u8 kids[k].cmp, .slice kids[k].B kids[k].vals.length kids[k].d] 31)).gro p).alloc (.cells #[.slice A5 ys.length c5] 50)) ((wr.alloc (.cells #[.int .u8 kids[k].op, .slice kids[k].A kids[k].kids.length kids[k].c, .string kids[k].col, .int .u8 kids[k].cmp, .slice kids[k].B kids[k].vals.length kids[k].d] 31)).gro p).heap.size ([(⟨A5, c5, oneF kind ys kids[k]⟩ : Fl)].flatMap flV) := by
              rw [h7]; exact at_alloc _ [.slice A5 ys.length c5] 50
            have h8 := sl_blk (k := 1) (enc := flV) (fun _ => rfl) h6 (by simp)
            simp only [size_gro, World.size_alloc, List.length_singleton] at h8
            exact h8
          · show OwnF _ _ (.slice A5 (oneF kind ys kids[k]).length c5) _
            rw [oneF_len]
            exact hr5.keep (Keep.alloc (Keep.refl _) _)
        refine Zone.wpZ_nil ?_
        intro p
        simp only [Zone.fill]
        rintro u5 ⟨g5, s5, rfl, hs5, hf5, hx5⟩ u6 hu6
        clear hu6
        simp only [Zone.dropFs, List.filter_nil, Zone.fill]
        have HSS1 := Lib.hid ((HSS.out.keep (show Keep wr _ from Keep.alloc (Keep.refl _) (.cells #[.int .u8 kids[k].op, .slice kids[k].A kids[k].kids.length kids[k].c, .string kids[k].col, .int .u8 kids[k].cmp, .slice kids[k].B kids[k].vals.length kids[k].d] 31))).keep (below_gro _ p))
        have hz1 : w.heap.size + 1 < ((wr.alloc (.cells #[.int .u8 kids[k].op, .slice kids[k].A kids[k].kids.length kids[k].c, .string kids[k].col, .int .u8 kids[k].cmp, .slice kids[k].B kids[k].vals.length kids[k].d] 31)).gro p).heap.size := by simp [size_gro]; omega
        have HK1 := Lib.hid ((HK.out.trans (Keep.alloc (Keep.refl _) (.cells #[.int .u8 kids[k].op, .slice kids[k].A kids[k].kids.length kids[k].c, .string kids[k].col, .int .u8 kids[k].cmp, .slice kids[k].B kids[k].vals.length kids[k].d] 31))).trans (below_gro _ p))
        have HX1 := Lib.hid ((HX.out.keep (Keep.alloc (Keep.refl _) (.cells #[.int .u8 kids[k].op, .slice kids[k].A kids[k].kids.length kids[k].c, .string kids[k].col, .int .u8 kids[k].cmp, .slice kids[k].B kids[k].vals.length kids[k].d] 31))).keep (below_gro _ p))
        have HF5 := Lib.hid hf5
        have HS5 := Lib.hid hs5
        have HX5 := Lib.hid hx5
        clear hf5 hs5 hx5 hv0 hl0 h0 h1 h2 h3 h4 HSS HK HX HC hz hg
        generalize World.gro _ _ = w5 at HSS1 hz1 HK1 HX1 HF5 HS5 ⊢
        have hlen5 : ss.length = k := by have := congrArg List.length HSS1.out.eq; simp at this; omega
        go_wp2_with (at_builtin; refine Zone.hold ?_)
        refine Zone.unhold ?_
        refine wpList_app elt_f fl_len fl_one rfl (.tmp 21) (.tmp 25) rfl (ys := [s5]) HSS1.out.own rfl rfl HS5.out (by have := HKL.out; simp; omega) (by omega) ?_
        intro v1 w6 hown6 hg6 _
        obtain ⟨s6, hs6⟩ : ∃ s6, ss ++ [s5] = s6 := ⟨_, rfl⟩
        rw [hs6] at hown6
        have hl6 : s6.length ≤ 1000001 := by have := HKL.out; rw [← hs6]; simp; omega
        obtain ⟨A9, c9, rfl, _⟩ := hown6.sl fl_len (by omega)
        have HO6 := Lib.hid hown6
        have hob := fun j (hj : v.ownBlock = some j) => HSS1.out.own.lt j hj
        have hc6 := hg6.cell HSS1.out.cell (fun e => by have h := (hob _ e.symm).1; simp only at h; omega)
        have hf6 : w6.frozen? ⟨w.heap.size + 1, 0, none⟩ = false := by
          have hb6 := hg6.block (w.heap.size + 1) hz1 (fun e => by have := (hob _ e.symm).1; omega)
          have := HSS1.out.froz
          unfold World.frozen? at this ⊢
          rw [hb6]; exact this
        have HX6 := Lib.hid (At.by_ hg6 HX1.out (fun e => by have := (hob _ e.symm).1; omega))
        have HK6 := Lib.hid (HK1.out.grown hg6 (fun j e => by have := (hob _ e).1; omega))
        have hfl6 : ∀ s ∈ s6, OwnF w6 (w.heap.size + 1 + 1) (.slice s.A s.xs.length s.c) s.xs ∧ s.xs.length = ys.length := fun s hs => by
          rw [← hs6] at hs
          rcases List.mem_append.1 hs with hs | hs
          · exact ⟨(HSS1.out.fls s hs).1.grown hg6 (own_apart HSS1.out.own (HSS1.out.fls s hs).1), (HSS1.out.fls s hs).2⟩
          · rw [List.mem_singleton.1 hs]
            exact ⟨HF5.out.grown hg6 (own_apart HSS1.out.own HF5.out), by rw [HX5.out, oneF_len]⟩
        have HFL6 := Lib.hid hfl6
        have heq6 : s6.map Fl.xs = (kids.take (k + 1)).map (oneF kind ys) := by
          rw [← hs6, List.map_append, HSS1.out.eq, List.take_succ_eq_append_getElem HLI.out, List.map_append]
          show _ ++ [s5.xs] = _ ++ [oneF kind ys kids[k]]
          rw [HX5.out]
        have HEQ6 := Lib.hid heq6
        clear heq6 hs6 hl6
        have hz6 : w.heap.size + 1 < w6.heap.size := World.block_lt_of_cell? _ _ hc6
        clear hown6 hg6 hob hfl6 HSS1 HX1 HK1 HF5 HS5 HX5 hz1 hlen5
        go_wp2
        go_roundw
        case rel =>
          have hgs := By.set w6 ⟨w.heap.size + 1, 0, none⟩ (.slice A9 s6.length c9)
          have hne : ∀ {g : Nat}, w.heap.size + 1 < g → some g ≠ some (w.heap.size + 1) := fun h e => by have := Option.some.inj e; omega
          refine ⟨k + 1, by omega, by go_num, _, s6, ⟨World.cell?_setCell_same _ _ _ hc6, by rw [World.frozen?_setCell]; exact hf6, HO6.out.grown hgs (fun j e h => ?_), fun s hs => ⟨(HFL6.out s hs).1.grown hgs (fun j e h => ?_), (HFL6.out s hs).2⟩, HEQ6.out⟩, At.by_ hgs HX6.out (fun e => by have := Option.some.inj e; simp at this), HK6.out.setCell (by simp) _, by simpa using hz6⟩
          · have h1 := (HO6.out.lt j h).1
            injection e with e
            simp only at e; omega
          · have h1 := ((HFL6.out s hs).1.lt j h).1
            injection e with e
            simp only at e; omega
        case measure => simp [intOf]; omega
      · have : k = kids.length := by omega
        subst this
        rw [List.take_length] at HSS
        have hsl : ss.length = kids.length := by have := congrArg List.length HSS.out.eq; simpa using this
        obtain ⟨A9, c9, rfl, hsl9⟩ := HSS.out.own.sl fl_len (by have := HKL.out; omega)
        have hv0 := HSS.out.cell
        have hl0 : w.heap.size < wr.heap.size := by omega
        have hx0 := HX.out 0 _ rfl
        have HS9 := Lib.hid hsl9
        have HIN := Lib.hid (show ∀ W, Keep wr W → ∀ s ∈ ss, FlIn W s ∧ s.xs.length = ys.length from fun W hW s hs => ⟨fl_in ((HSS.out.fls s hs).1.keep hW) (by have := (HSS.out.fls s hs).2; omega), (HSS.out.fls s hs).2⟩)
        have HSL := Lib.hid hsl
        have HEQ := Lib.hid HSS.out.eq
        clear hsl9 hsl
        by_cases h1 : op = 1
        · subst h1
          have hR := HRE.out
          rw [if_pos rfl] at hR
          have HR := Lib.hid hR
          clear hR HRE
          go_wp2
          first | refine Zone.wp_region_all_gro (by kernel_rfl) (by kernel_rfl) ?_ | refine Zone.wp_region_all (by kernel_rfl) (by kernel_rfl) ?_
          repeat
            refine Zone.wpZ_step (fun K hK => ?_)
            go_simp
            first
            | (refine hK _ _ ?_; clear hK K)
            | (apply Exists.intro
               refine ⟨fun p => ?_, hK _ _ ?_⟩
               ((go_at_call 14; exact Zone.zs (HLEN.out _ (HK.out.trans (by repeat (first | exact Keep.refl _ | apply Keep.alloc | apply Keep.gro | apply Keep.drew | apply Keep.drewN))))))
               clear hK K)
          refine Zone.wpZ_free 36 (OneR w.heap.size ys.length R) rfl OneR.mono ?_ ?_
          · intro p
            simp only [Zone.fill, Zone.lookFs, List.filter_nil]
            go_simp
            go_at_call 98
            have hk3 : Keep wr (wr.gro p) := below_gro _ p
            refine (each_f ys.length A9 c9 ss 99 #[.pointer (some ⟨w.heap.size + 1, 0, none⟩)] (fun t => t == ss.length) _ hyl (HS9.out.keep hk3) (HIN.out _ hk3) (by have := HKL.out; have := HSL.out; omega) (enters_of Try.func99 (by kernel_rfl) rfl) (fun W k hW hk => one1_any (w.heap.size + 1) k ss.length A9 c9 W (by have := HKL.out; have := HSL.out; omega) hk (((hk3.trans hW).cell (p := ⟨w.heap.size + 1, 0, none⟩) hz).trans hv0))).mono ?_
            rintro e w5 ⟨rfl, hown, hk5⟩
            refine ⟨_, rfl, ⟨_, _, rfl, ?_⟩, hk5⟩
            have hb : w.heap.size ≤ (wr.gro p).heap.size := Nat.le_trans (Nat.le_of_lt hl0) hk3.size
            rw [eachF_map, HEQ.out] at hown
            try rw [HSL.out] at hown
            rw [HR.out] at hown
            exact hown.base_mono hb
          refine Zone.wpZ_free 4 (OneR w.heap.size ys.length R) rfl OneR.mono ?_ ?_
          · intro p
            rw [show Zone.lookFs _ _ _ = [(36, OneR w.heap.size ys.length R)] from rfl]
            rintro v5 hv5
            go_simp
            (try exact ⟨hv5, Keep.refl _⟩)
          refine Zone.wpZ_nil ?_
          intro p
          simp only [Zone.fill]
          rintro u4 hu4
          change ∀ v, OneR w.heap.size ys.length R v (wr.gro p) → Zone.fill _ [] _ _
          rintro u36 hu36
          simp only [Zone.fill]
          have HU := Lib.hid hu4
          have HKG := Lib.hid (HK.out.trans (below_gro wr p))
          clear hu36 hu4
          go_wp2
          go_ret
          exact ⟨u4, rfl, HU.out, HKG.out⟩
        by_cases h2 : op = 2
        · subst h2
          have hR := HRE.out
          rw [if_neg h1, if_pos rfl] at hR
          have HR := Lib.hid hR
          clear hR HRE h1
          go_wp2
          first | refine Zone.wp_region_all_gro (by kernel_rfl) (by kernel_rfl) ?_ | refine Zone.wp_region_all (by kernel_rfl) (by kernel_rfl) ?_
          repeat
            refine Zone.wpZ_step (fun K hK => ?_)
            go_simp
            first
            | (refine hK _ _ ?_; clear hK K)
            | (apply Exists.intro
               refine ⟨fun p => ?_, hK _ _ ?_⟩
               ((go_at_call 14; exact Zone.zs (HLEN.out _ (HK.out.trans (by repeat (first | exact Keep.refl _ | apply Keep.alloc | apply Keep.gro | apply Keep.drew | apply Keep.drewN))))))
               clear hK K)
          refine Zone.wpZ_free 42 (OneR w.heap.size ys.length R) rfl OneR.mono ?_ ?_
          · intro p
            simp only [Zone.fill, Zone.lookFs, List.filter_nil]
            go_simp
            go_at_call 98
            have hk3 : Keep wr (wr.gro p) := below_gro _ p
            refine (each_f ys.length A9 c9 ss 100 #[] (fun t => decide (0 < t)) _ hyl (HS9.out.keep hk3) (HIN.out _ hk3) (by have := HKL.out; have := HSL.out; omega) (enters_of Try.func100 (by kernel_rfl) rfl) (fun W k _ _ => one2_any k W)).mono ?_
            rintro e w5 ⟨rfl, hown, hk5⟩
            refine ⟨_, rfl, ⟨_, _, rfl, ?_⟩, hk5⟩
            have hb : w.heap.size ≤ (wr.gro p).heap.size := Nat.le_trans (Nat.le_of_lt hl0) hk3.size
            rw [eachF_map, HEQ.out] at hown
            try rw [HSL.out] at hown
            rw [HR.out] at hown
            exact hown.base_mono hb
          refine Zone.wpZ_free 4 (OneR w.heap.size ys.length R) rfl OneR.mono ?_ ?_
          · intro p
            rw [show Zone.lookFs _ _ _ = [(42, OneR w.heap.size ys.length R)] from rfl]
            rintro v5 hv5
            go_simp
            (try exact ⟨hv5, Keep.refl _⟩)
          refine Zone.wpZ_nil ?_
          intro p
          simp only [Zone.fill]
          rintro u4 hu4
          change ∀ v, OneR w.heap.size ys.length R v (wr.gro p) → Zone.fill _ [] _ _
          rintro u36 hu36
          simp only [Zone.fill]
          have HU := Lib.hid hu4
          have HKG := Lib.hid (HK.out.trans (below_gro wr p))
          clear hu36 hu4
          go_wp2
          go_ret
          exact ⟨u4, rfl, HU.out, HKG.out⟩
        by_cases h3 : op = 3
        · subst h3
          have hR := HRE.out
          rw [if_neg h1, if_neg h2, if_pos rfl] at hR
          have HR := Lib.hid hR
          clear hR HRE h1 h2
          go_wp2
          first | refine Zone.wp_region_all_gro (by kernel_rfl) (by kernel_rfl) ?_ | refine Zone.wp_region_all (by kernel_rfl) (by kernel_rfl) ?_
          repeat
            refine Zone.wpZ_step (fun K hK => ?_)
            go_simp
            first
            | (refine hK _ _ ?_; clear hK K)
            | (apply Exists.intro
               refine ⟨fun p => ?_, hK _ _ ?_⟩
               ((go_at_call 14; exact Zone.zs (HLEN.out _ (HK.out.trans (by repeat (first | exact Keep.refl _ | apply Keep.alloc | apply Keep.gro | apply Keep.drew | apply Keep.drewN))))))
               clear hK K)
          refine Zone.wpZ_free 48 (OneR w.heap.size ys.length R) rfl OneR.mono ?_ ?_
          · intro p
            simp only [Zone.fill, Zone.lookFs, List.filter_nil]
            go_simp
            go_at_call 98
            have hk3 : Keep wr (wr.gro p) := below_gro _ p
            refine (each_f ys.length A9 c9 ss 101 #[] (fun t => t == 0) _ hyl (HS9.out.keep hk3) (HIN.out _ hk3) (by have := HKL.out; have := HSL.out; omega) (enters_of Try.func101 (by kernel_rfl) rfl) (fun W k _ _ => one3_any k W)).mono ?_
            rintro e w5 ⟨rfl, hown, hk5⟩
            refine ⟨_, rfl, ⟨_, _, rfl, ?_⟩, hk5⟩
            have hb : w.heap.size ≤ (wr.gro p).heap.size := Nat.le_trans (Nat.le_of_lt hl0) hk3.size
            rw [eachF_map, HEQ.out] at hown
            try rw [HSL.out] at hown
            rw [HR.out] at hown
            exact hown.base_mono hb
          refine Zone.wpZ_free 4 (OneR w.heap.size ys.length R) rfl OneR.mono ?_ ?_
          · intro p
            rw [show Zone.lookFs _ _ _ = [(48, OneR w.heap.size ys.length R)] from rfl]
            rintro v5 hv5
            go_simp
            (try exact ⟨hv5, Keep.refl _⟩)
          refine Zone.wpZ_nil ?_
          intro p
          simp only [Zone.fill]
          rintro u4 hu4
          change ∀ v, OneR w.heap.size ys.length R v (wr.gro p) → Zone.fill _ [] _ _
          rintro u36 hu36
          simp only [Zone.fill]
          have HU := Lib.hid hu4
          have HKG := Lib.hid (HK.out.trans (below_gro wr p))
          clear hu36 hu4
          go_wp2
          go_ret
          exact ⟨u4, rfl, HU.out, HKG.out⟩
        have hR := HRE.out
        rw [if_neg h1, if_neg h2, if_neg h3] at hR
        have HR := Lib.hid hR
        have d1 : (op == 1) = false := by simpa using h1
        have d2 : (op == 2) = false := by simpa using h2
        have d3 : (op == 3) = false := by simpa using h3
        clear hR HRE h1 h2 h3
        go_wp2_with (first | (go_at_call 14; refine (HLEN.out _ (HK.out.trans (by repeat (first | exact Keep.refl _ | apply Keep.alloc | apply Keep.gro | apply Keep.drew | apply Keep.drewN)))).mono ?_; rintro e w' ⟨rfl, rfl⟩) | (go_at_call 77; refine Zone.hold ?_))
        refine Zone.unhold ?_
        refine (all_f ys.length true _ hyl).mono ?_
        rintro e w5 ⟨rfl, hown, hk5⟩
        rw [HR.out] at hown
        have HO5 := Lib.hid (hown.base_mono (show w.heap.size ≤ wr.heap.size from Nat.le_of_lt hl0))
        have HK5 := Lib.hid (HK.out.trans hk5)
        clear hown hk5
        go_wp2
        go_ret
        exact ⟨_, rfl, ⟨_, _, rfl, HO5.out⟩, HK5.out⟩
end Go.Proofs.Ythigflnfccajoaa
