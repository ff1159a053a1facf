
/- groups: all groups. -/
import Derived.WalkKit
import Derived.Lib.Hide
import Derived.WalkSpells
import Derived.WalkLawsBesides
import Derived.BigQuiet
import Derived.Shelf.Abstract
import Derived.Lib.SliceRun
import Derived.Laws.CopyOwn
import Derived.IntWalk
import Derived.Maps.RangeRun
import Derived.StillTailTactics
import Derived.Test.YtpefhleglhbfaaaSort
import Derived.Laws.MakeOwn
import Derived.Deep.CutRange
import Derived.Deep.DeepCutAuto
import Derived.Test.YtpefhleglhbfaaaGd
namespace Go.Proofs.Ytpefhleglhbfaaa
open Go.RowKit Go.Zone Go.Shelf
open Go.Sort hiding Below
attribute [local go_sem] Zone.zone Zone.stepZ Zone.fill Zone.lookFs Zone.goes Zone.goesUpon Zone.dropFs Zone.cell_gro Zone.frozen_gro Zone.size_gro Zone.lt_add Zone.drew_gro Zone.tape_gro Zone.keep_refl
attribute [local go_sem] Zone.lt_add2 Zone.lt_add3 Zone.lt_add4 Zone.lt_add5 Zone.lt_add6 Zone.lt_add7 Zone.lt_add8 Zone.lt_add9 Zone.lt_add10 Zone.lt_add11 Zone.lt_add12

theorem cp_len (x : Cp) : x.cells.length = 5 := rfl
theorem cp_one (x : Cp) : ∀ u ∈ x.cells, u.oneCell' = true := by simp [Cp.cells, Value.oneCell']
theorem info_sum : (Try.prog.info? 25).map (fun i => (i.zero, i.size, i.bytes)) = some (some (.agg #[.slice none 0 0, .int .i64 0, .slice none 0 0, .slice none 0 0, .slice none 0 0]), 5, 104) := by kernel_rfl
theorem elt_sum : Elt Try.prog 39 25 5 104 := by
  obtain ⟨i, hi, h1, h2, h3⟩ := info_partsK info_sum
  exact ⟨i, _, Try.underlying39, hi, h1, h2, h3, rfl, by decide, by decide⟩
abbrev OwnC (w : World) (base : Nat) (v : Value) (xs : List Cp) : Prop := Zone.Own w base 25 5 Cp.cells v xs
/-- Groups by value of the call's own. -/
structure CL (w : World) (base : Nat) (v : Value) (xs : List Cp) : Prop where
  own : OwnC w base v xs
  at_ : ∀ x ∈ xs, CpAt w base x
theorem CL.keep {w w' : World} {base : Nat} {v : Value} {xs : List Cp} (h : CL w base v xs) (hk : Keep w w') : CL w' base v xs := ⟨h.own.keep hk, fun x hx => (h.at_ x hx).keep hk⟩
/-- The map's entries: groups in the order in which they came. -/
def entries (gs : List (Int × Gp)) : List MapEntry := gs.zipIdx.map fun x => ⟨keyV x.1.1, .pointer (some ⟨x.1.2.sp, 0, none⟩), x.2⟩
structure TabAt (w : World) (lo b m by_ : Nat) (gs : List (Int × Gp)) : Prop where
  row : Row w b 32 (TabC by_ m)
  map : w.heap[m]? = some (.map (entries gs).toArray gs.length)
  at_ : ∀ x ∈ gs, GpAt w lo x.2 ∧ x.2.key.length = by_
  lt : m < lo
theorem TabAt.keep {w w' : World} {lo b m by_ : Nat} {gs : List (Int × Gp)} (h : TabAt w lo b m by_ gs) (hk : Keep w w') : TabAt w' lo b m by_ gs :=
  ⟨h.row.keep hk, (hk.block m (Array.getElem?_eq_some_iff.1 h.map).1).trans h.map, fun x hx => ⟨(h.at_ x hx).1.keep hk, (h.at_ x hx).2⟩, h.lt⟩
theorem entries_len (gs : List (Int × Gp)) : (entries gs).length = gs.length := by simp [entries]
theorem entries_at (gs : List (Int × Gp)) (i : Nat) (hi : i < gs.length) : (entries gs)[i]'(by rw [entries_len]; exact hi) = ⟨keyV gs[i].1, .pointer (some ⟨gs[i].2.sp, 0, none⟩), i⟩ := by
  simp [entries]
theorem entries_born (gs : List (Int × Gp)) : (entries gs).map (·.born) = List.range gs.length := by
  apply List.ext_getElem
  · simp [entries]
  · intro i h1 h2
    simp [entries]
theorem own_obj_ne {α : Type} {w : World} {base k b : Nat} {e : TypeId} {enc : α → List Value} {v : Value} {xs : List α} {m : Option Nat} {s c : Nat} {se : Array Nat} (h : Own w base e k enc v xs) (hb : w.heap[b]? = some (.mapIter m s se c)) : v.ownBlock ≠ some b := by
  intro hv
  rcases h.2 with ⟨rfl, _⟩ | ⟨g, cap, cur, rfl, _, hg, _⟩
  · cases hv
  · have hq : g = b := by simpa [Value.ownBlock] using hv
    subst hq
    rw [hb] at hg
    cases hg
theorem CL.iter {w w' : World} {base b : Nat} {v : Value} {xs : List Cp} {m : Option Nat} {s c : Nat} {se : Array Nat} (h : CL w base v xs) (hb : w.heap[b]? = some (.mapIter m s se c)) (ht : Turn w w' [b]) : CL w' base v xs :=
  ⟨h.own.turn ht (by simpa using own_obj_ne h.own hb), fun x hx => ⟨(h.at_ x hx).key.turn ht (by simpa using own_obj_ne (h.at_ x hx).key hb), (h.at_ x hx).s.turn ht (by simpa using own_obj_ne (h.at_ x hx).s hb), (h.at_ x hx).l.turn ht (by simpa using own_obj_ne (h.at_ x hx).l hb), (h.at_ x hx).g.turn ht (by simpa using own_obj_ne (h.at_ x hx).g hb)⟩⟩
theorem own_apartC {w : World} {b1 b2 : Nat} {v v2 : Value} {ss : List Cp} {xs : List Int} {e : TypeId} (h : OwnC w b1 v ss) (h2 : Zone.Own w b2 e 1 intV v2 xs) (he : e ≠ 25) : ∀ j, v.ownBlock = some j → v2.ownBlock ≠ some j := by
  intro j hj e2
  rcases h.2 with ⟨rfl, _⟩ | ⟨g, cap, cur, rfl, _, hg, _⟩
  · cases hj
  rcases h2.2 with ⟨rfl, _⟩ | ⟨g2, cap2, cur2, rfl, _, hg2, _⟩
  · cases e2
  simp only [Value.ownBlock, Option.map_some, Option.some.injEq] at hj e2
  subst hj; subst e2
  rw [hg] at hg2
  injection hg2 with hg2
  injection hg2 with _ h3 _
  exact he h3.symm
theorem CpAt.grown {w w' : World} {b1 b2 : Nat} {v : Value} {ss : List Cp} {x : Cp} (h : CpAt w b2 x) (ho : OwnC w b1 v ss) (hg : w.grownBy w' v.ownBlock) : CpAt w' b2 x :=
  ⟨h.key.grown hg (own_apartC ho h.key (by decide)), h.s.grown hg (own_apartC ho h.s (by decide)), h.l.grown hg (own_apartC ho h.l (by decide)), h.g.grown hg (own_apartC ho h.g (by decide))⟩
/-- how many an iterator has seen -/
def seenN (w : World) (r : Nat) : Nat := match w.heap[r]? with | some (.mapIter _ _ s _) => s.size | _ => 0
theorem seenN_of {w : World} {r : Nat} {m : Option Nat} {s c : Nat} {se : Array Nat} (h : w.heap[r]? = some (.mapIter m s se c)) : seenN w r = se.size := by unfold seenN; rw [h]
def dtAt (gs : List (Int × Gp)) (i : Nat) : Dt := (gs.getD i (0, ⟨0, none, 0, [], 0, 0, 0, 0, 0, 0, 0⟩)).2.dt
theorem left_mem (gs : List (Int × Gp)) (seen : List Nat) (e : MapEntry) (h : e ∈ (leftOf (entries gs).toArray seen.toArray).toList) : ∃ i, ∃ hi : i < gs.length, e = ⟨keyV gs[i].1, .pointer (some ⟨gs[i].2.sp, 0, none⟩), i⟩ ∧ i ∉ seen := by
  simp only [leftOf, List.toList_toArray, Array.toList_filter, List.mem_filter, Bool.not_eq_true', List.contains_eq_mem] at h
  obtain ⟨h1, h2⟩ := h
  obtain ⟨i, hi, he⟩ := List.getElem_of_mem h1
  rw [entries_len] at hi
  rw [entries_at gs i hi] at he
  subst he
  refine ⟨i, hi, rfl, fun hm => ?_⟩
  simp at h2
  exact h2 hm
theorem left_none (gs : List (Int × Gp)) (seen : List Nat) (h : (leftOf (entries gs).toArray seen.toArray).size = 0) (i : Nat) (hi : i < gs.length) : i ∈ seen := by
  have h0 := Array.eq_empty_of_size_eq_zero h
  by_cases hm : i ∈ seen
  · exact hm
  · exfalso
    have h1 : (entries gs)[i]'(by rw [entries_len]; exact hi) ∈ (leftOf (entries gs).toArray seen.toArray) := by
      unfold leftOf
      rw [Array.mem_filter]
      refine ⟨by simp, ?_⟩
      rw [entries_at gs i hi]
      simpa using hm
    rw [h0] at h1
    simp at h1
theorem nodup_lt : ∀ (n : Nat) (l : List Nat), l.Nodup → (∀ i ∈ l, i < n) → l.length ≤ n
  | 0, l, _, h => by
    cases l with
    | nil => simp
    | cons a r => exact absurd (h a (by simp)) (Nat.not_lt_zero _)
  | n + 1, l, hd, h => by
    have h1 := nodup_lt n (l.erase n) (hd.erase n) (fun i hi => by
      have h2 := (hd.mem_erase_iff).1 hi
      have := h i h2.2
      have := h2.1
      omega)
    have h2 := List.length_erase (a := n) (l := l)
    split at h2 <;> omega
theorem alloc2_grow (W : World) (a b : Obj) : ((W.alloc a).alloc b) = grow (W.drewN 0) (#[a] ++ #[b]) := by
  simp only [alloc_eq_grow, grow_grow]; rfl
theorem cmp_grow (x y : Cp) (W : World) (hx : Sl W 1 intV x.kA x.kc x.d.key) (hy : Sl W 1 intV y.kA y.kc y.d.key) (hl : y.d.key.length = x.d.key.length) :
    Calls Try.prog 17 #[.agg x.cells.toArray, .agg y.cells.toArray] W fun e w' => e = .returned (.int .i64 (cmpL x.d.key y.d.key)) ∧ ∃ q os', w' = grow (W.drewN q) os' := by
  have HX := Lib.hid hx
  have HY := Lib.hid hy
  have HL := Lib.hid hl
  rw [show (Value.agg x.cells.toArray) = .agg #[.slice x.kA x.d.key.length x.kc, .int .i64 x.d.cnt, .slice x.sA 1 x.sc, .slice x.lA 1 x.lc, .slice x.gA 1 x.gc] from rfl, show (Value.agg y.cells.toArray) = .agg #[.slice y.kA y.d.key.length y.kc, .int .i64 y.d.cnt, .slice y.sA 1 y.sc, .slice y.lA 1 y.lc, .slice y.gA 1 y.gc] from rfl]
  clear hx hy hl
  go_enter Try.func17, Try.ntmps17
  go_wp2_with (go_at_call 18; refine (cmpS_any x.kA y.kA x.kc y.kc x.d.key y.d.key _ (HX.out.keep (by repeat (first | exact Keep.refl _ | apply Keep.alloc | apply Keep.gro | apply Keep.drew | apply Keep.drewN))) (HY.out.keep (by repeat (first | exact Keep.refl _ | apply Keep.alloc | apply Keep.gro | apply Keep.drew | apply Keep.drewN))) HL.out).mono ?_; rintro e w' ⟨rfl, rfl⟩)
  go_ret
  exact ⟨rfl, 0, _, alloc2_grow W _ _⟩
theorem aggC (w : World) : (isAgg 25).run Try.prog w = .ok true w := by kernel_rfl
theorem sizeC (w : World) : (Go.sizeOf 25).run Try.prog w = .ok 5 w := by kernel_rfl
def hd (x : Cp) : Int := x.d.key.headD 0
theorem cmpL_hd {k1 k2 : List Int} (hl : k2.length = k1.length) (h1 : k1.length ≤ 1) : cmpL k1 k2 = cmpN (k1.headD 0) (k2.headD 0) := by
  match k1, k2, hl, h1 with
  | [], [], _, _ => simp [cmpL, cmpN]
  | [a], [b], _, _ =>
    simp only [cmpL, List.headD_cons]
    split
    · rename_i h; exact h.symm
    · rfl
theorem cmpN_lt (x y : Int) : cmpN x y < 0 ↔ x < y := by
  unfold cmpN
  split
  · simp [*]
  · split <;> simp [*]
theorem flat5 {α : Type} [Inhabited α] {enc : α → List Value} (hk : ∀ x, (enc x).length = 5) (xs : List α) : flatK enc 5 xs.toArray = (xs.flatMap enc).toArray := by
  apply Array.ext
  · simp [flat_len hk]
  · intro i h1 h2
    have h3 : i < xs.length * 5 := by simpa using h1
    have hd : i / 5 < xs.length := by omega
    have := flat_get hk xs (i / 5) (i % 5) hd ((enc xs[i / 5])[i % 5]!) (by
      have : i % 5 < (enc xs[i / 5]).length := by rw [hk]; omega
      rw [List.getElem?_eq_getElem this, getElem!_pos (enc xs[i / 5]) (i % 5) this])
    have hj : i / 5 * 5 + i % 5 = i := by omega
    rw [hj] at this
    have h4 := get_flatK enc 5 xs.toArray i (by simpa using h3)
    rw [getElem!_pos (flatK enc 5 xs.toArray) i h1] at h4
    rw [h4]
    simp only [List.getElem_toArray]
    rw [getElem!_pos xs.toArray (i / 5) (by simpa using hd)]
    obtain ⟨_, h6⟩ := List.getElem?_eq_some_iff.1 this
    rw [h6]
    simp
theorem grown_sort {α : Type} [Inhabited α] (enc : α → List Value) (k : Nat) (w : World) (g n : Nat) (d : Array α) (os : Array Obj) : w.grownBy (sortWorldK enc k w g 0 n d os) (some g) := by
  have hheap : (sortWorldK enc k w g 0 n d os).heap = w.heap.modify g (onCells (putCells id 0 (flatK enc k d))) ++ os := rfl
  refine ⟨rfl, rfl, rfl, by rw [hheap]; simp, fun i hi hne => ?_⟩
  have hkg : g ≠ i := fun e => hne (by rw [e])
  rw [hheap, Array.getElem?_append, if_pos (by simpa using hi), Array.getElem?_modify, if_neg hkg]
theorem key_sl {w : World} {base n c : Nat} {A : Option Addr} {xs : List Int} (h : Zone.Own w base 3 1 intV (.slice A n c) xs) (hl : xs.length ≤ 1) : Sl w 1 intV A c xs := by
  obtain ⟨A', c', e, hs⟩ := h.sl int_len (by omega)
  injection e with e1 _ e2
  subst e1; subst e2
  exact hs
theorem sort_any (A : Option Addr) (c : Nat) (cs : List Cp) (base by_ : Nat) (w : World) (h : CL w base (.slice A cs.length c) cs) (hby : ∀ x ∈ cs, x.d.key.length = by_) (hb1 : by_ ≤ 1) (hl : cs.length ≤ 2) :
    Calls Try.prog 16 #[.slice A cs.length c, .func (.func 17) #[] #[]] w fun e w' => ∃ cs', e = .returned (.tuple #[]) ∧ CL w' base (.slice A cs.length c) cs' ∧ cs'.Perm cs ∧ cs'.Pairwise (fun x y => ¬ hd y < hd x) ∧ w.grownBy w' (Value.slice A cs.length c).ownBlock := by
  by_cases h0 : cs.length = 0
  · have hx : cs = [] := List.eq_nil_of_length_eq_zero h0
    subst hx
    refine (AnyF.slices_SortFunc_none (P := Try.prog) (ρ := Try.sortV_ren) { Try.sortV with } A c (.func (.func 17) #[] #[]) w).mono ?_
    rintro e w' ⟨rfl, rfl⟩
    exact ⟨[], rfl, h, List.Perm.refl _, List.Pairwise.nil, ⟨rfl, rfl, rfl, Nat.le_refl _, fun _ _ _ => rfl⟩⟩
  · have hown := h.own
    rcases hown.2 with ⟨_, h1⟩ | ⟨g, cap, cur, hv, hb, hg, hn, hm, hs, ht⟩
    · exact absurd h1 h0
    · injection hv with hA _ hc
      subst hA; subst hc
      have hlt : g < w.heap.size := (Array.getElem?_eq_some_iff.1 hg).1
      haveI : Inhabited {x : Cp // x ∈ cs} := ⟨⟨cs[0]'(by omega), List.getElem_mem _⟩⟩
      have hk : ∀ x : {x : Cp // x ∈ cs}, (x.1.cells).length = 5 := fun x => rfl
      have hval : cs.attach.map Subtype.val = cs := List.attach_map_subtype_val cs
      have hfm : ∀ ys : List {x : Cp // x ∈ cs}, ys.flatMap (fun x => x.1.cells) = (ys.map Subtype.val).flatMap Cp.cells := fun ys => by rw [List.flatMap_map]
      have hfl : (cs.flatMap Cp.cells).length = cs.length * 5 := flat_len cp_len cs
      have hH : HoldsK (fun x : {x : Cp // x ∈ cs} => x.1.cells) 5 w g 0 cs.attach.toArray := fun j hj => by
        rw [flat5 hk, hfm, hval] at hj ⊢
        have hj' : j < (cs.flatMap Cp.cells).length := by simpa using hj
        have e1 : cur[j]? = some (cs.flatMap Cp.cells)[j] := by
          have h7 : (cs.flatMap Cp.cells)[j]? = some (cs.flatMap Cp.cells)[j] := List.getElem?_eq_getElem hj'
          generalize (cs.flatMap Cp.cells)[j] = u at h7 ⊢
          rw [← ht, List.getElem?_take, if_pos (by omega)] at h7
          simpa using h7
        rw [getElem!_pos _ j hj]
        refine ⟨?_, by simp [World.frozen?, hg]⟩
        simp only [World.cell?, hg, Nat.zero_add, Option.isSome_none, Bool.false_eq_true, if_false, id]
        rw [e1]; simp
      have hcm : ∀ x y : {x : Cp // x ∈ cs}, (ltOf fun x y : {x : Cp // x ∈ cs} => cmpL x.1.d.key y.1.d.key) x y = decide (hd x.1 < hd y.1) := fun x y => by
        show decide (cmpL x.1.d.key y.1.d.key < 0) = decide (hd x.1 < hd y.1)
        rw [cmpL_hd (by rw [hby _ x.2, hby _ y.2]) (by rw [hby _ x.2]; exact hb1)]
        exact decide_eq_decide.2 (cmpN_lt _ _)
      have hwo : SWO (ltOf fun x y : {x : Cp // x ∈ cs} => cmpL x.1.d.key y.1.d.key) := by
        refine ⟨fun x => ?_, fun x y z h k => ?_, fun x y z h k => ?_⟩
        · rw [hcm]; simp
        · rw [hcm] at *; simp at *; omega
        · rw [hcm] at *; simp at *; omega
      have hds : cs.attach.toArray.size = cs.length := by simp
      have := AnyQ.slices_SortFunc (P := Try.prog) (ρ := Try.sortV_ren) Try.sortV 5 aggC sizeC (fun x : {x : Cp // x ∈ cs} => x.1.cells) hk (fun x => cp_one x.1) (fun x y => cmpL x.1.d.key y.1.d.key) hwo 17 #[] g 0 c cs.attach.toArray w (enters_of Try.func17 (by kernel_rfl) rfl) (fun m os dk hdk x y => by
          have hw := grown_sort (fun x : {x : Cp // x ∈ cs} => x.1.cells) 5 w g m dk os
          have hkx := ((h.at_ x.1 x.2).grown h.own hw).key
          have hky := ((h.at_ y.1 y.2).grown h.own hw).key
          have hsx := key_sl hkx (by rw [hby _ x.2]; omega)
          have hsy := key_sl hky (by rw [hby _ y.2]; omega)
          exact cmp_grow x.1 y.1 _ hsx hsy (by rw [hby _ x.2, hby _ y.2])) hH hlt (by rw [hds]; omega)
      rw [hds] at this
      refine Calls.mono this ?_
      rintro e w' ⟨rfl, d', n, os, hp, hso, rfl⟩
      obtain ⟨hp1, _, hp3⟩ := hp
      rw [hds] at hp1
      have hpp : d'.toList.Perm cs.attach := by
        have h1 : (d'.extract 0 cs.length).toList = d'.toList := by rw [← hp1]; simp
        have h2 : (cs.attach.toArray.extract 0 cs.length).toList = cs.attach := by simp [List.take_of_length_le]
        rw [h1, h2] at hp3
        exact hp3
      have hpc : (d'.toList.map Subtype.val).Perm cs := by
        have := hpp.map Subtype.val
        rwa [hval] at this
      have hgr := grown_sort (fun x : {x : Cp // x ∈ cs} => x.1.cells) 5 w g n d' os
      have hlen : (d'.toList.map Subtype.val).length = cs.length := hpc.length_eq
      refine ⟨d'.toList.map Subtype.val, rfl, ⟨?_, fun x hx => ?_⟩, hpc, ?_, hgr⟩
      · have hF : flatK (fun x : {x : Cp // x ∈ cs} => x.1.cells) 5 d' = ((d'.toList.map Subtype.val).flatMap Cp.cells).toArray := by
          have := flat5 hk d'.toList
          rw [hfm] at this
          simpa using this
        have hheap : (sortWorldK (fun x : {x : Cp // x ∈ cs} => x.1.cells) 5 w g 0 n d' os).heap = w.heap.modify g (onCells (putCells id 0 ((d'.toList.map Subtype.val).flatMap Cp.cells).toArray)) ++ os := by
          unfold sortWorldK putRowK
          rw [hF]
          rfl
        generalize d'.toList.map Subtype.val = cs' at hheap hlen
        have hfl' : (cs'.flatMap Cp.cells).length = cs.length * 5 := by rw [flat_len cp_len, hlen]
        refine ⟨by rw [hfl', hlen], .inr ⟨g, c, putCells id 0 (cs'.flatMap Cp.cells).toArray cur, by rw [hlen], hb, ?_, by rw [hlen]; exact hn, hm, ?_, ?_⟩⟩
        · rw [hheap, Array.getElem?_append, if_pos (by simpa using hlt), Array.getElem?_modify, if_pos rfl, hg]
          rfl
        · simp [putCells, hs]
        · rw [hlen]
          apply List.ext_getElem?
          intro i
          rw [List.getElem?_take]
          by_cases hi : i < cs.length * 5
          · rw [if_pos hi]
            have hic : i < cur.size := by rw [hs]; have := Nat.mul_le_mul_right 5 hn; omega
            simp [putCells, hic, hfl', hi]
          · rw [if_neg hi, List.getElem?_eq_none (by omega)]
      · exact (h.at_ x (hpc.mem_iff.1 hx)).grown h.own hgr
      · rw [List.pairwise_map]
        rw [List.pairwise_iff_getElem]
        intro i j hi hj hij
        have h9 := hso i j (Nat.zero_le _) hij (by simp at hj; omega)
        have hji : j < d'.size := by simpa using hj
        have hii : i < d'.size := by simpa using hi
        rw [getElem!_pos d' j hji, getElem!_pos d' i hii] at h9
        simp only [Array.getElem_toList]
        rw [hcm] at h9
        simpa using h9
set_option maxHeartbeats 2000000 in
theorem groups_any (w : World) (lo b m by_ : Nat) (gs : List (Int × Gp)) (h : TabAt w lo b m by_ gs) (hl : gs.length ≤ 2) (hby : by_ ≤ 1) :
    Calls Try.prog 9 #[.pointer (some ⟨b, 0, none⟩)] w fun e w' => ∃ v cs, e = .returned v ∧ CL w' w.heap.size v cs ∧ (cs.map (·.d)).Perm (gs.map (·.2.dt)) ∧ cs.Pairwise (fun x y => ¬ hd y < hd x) ∧ Keep w w' := by
  have H := Lib.hid h
  have hblt := h.row.lt
  have t2 := h.row.cell 2 _ rfl
  have hlen := fun (W : World) (hW : Keep w W) => run_len_map (P := Try.prog) (w := W) 30 3 m (entries gs).toArray gs.length Try.underlying30 ((hW.block m (Array.getElem?_eq_some_iff.1 h.map).1).trans h.map)
  have HM := Lib.hid (fun (W : World) => by
    obtain ⟨i, hi, h1, h2, h3⟩ := info_partsK info_sum
    exact run_makeSlice_owned (P := Try.prog) (w := W) w.heap.size 39 25 i _ 5 Try.underlying39 hi h1 h2 .i64 .i64 gs.length (by omega) (by rw [h3]; omega) (by unfold maxLen; omega))
  clear h
  have hl0 := hlen w (Keep.refl w)
  clear hlen
  simp only [List.size_toArray, entries_len] at hl0
  obtain ⟨n, hn⟩ : ∃ n, gs.length = n := ⟨_, rfl⟩
  have HN := Lib.hid hn
  rw [hn] at hl hl0 HM
  obtain ⟨W1, hmk, hown, hg1⟩ := HM.out w (Nat.le_refl _)
  have hk1 : Keep w W1 := ⟨hg1.os, hg1.tape, hg1.output, hg1.size, fun k hk => hg1.block k hk (by simp)⟩
  have ht2 := (hk1.cell (p := ⟨b, 2, none⟩) hblt).trans t2
  have hb1 : b < W1.heap.size := World.block_lt_of_cell? _ _ ht2
  have hmap : W1.heap[m]? = some (.map (entries gs).toArray n) := by rw [← hn]; exact (H.out.keep hk1).map
  have hrg := run_range_map (P := Try.prog) W1 30 48 45 m (entries gs).toArray n Try.underlying30 hmap
  have HIT := Lib.hid (show (W1.alloc (.mapIter (some m) n #[] n)).heap[W1.heap.size]? = some (.mapIter (some m) n ([] : List Nat).toArray n) by unfold World.alloc; simp)
  have HK2 := Lib.hid (hk1.alloc (.mapIter (some m) n #[] n))
  obtain ⟨v0, hv0⟩ : ∃ v0, v0 = Value.slice (some ⟨w.heap.size, 0, none⟩) 0 n := ⟨_, rfl⟩
  have HCL := Lib.hid (show CL (W1.alloc (.mapIter (some m) n #[] n)) w.heap.size v0 [] by
    refine ⟨?_, fun x hx => (by cases hx)⟩
    rw [hv0]
    exact Own.keep (w := W1) hown ((Keep.refl W1).alloc _))
  rw [← hv0] at hmk
  have HBD := Lib.hid (show W1.heap.size ≥ w.heap.size from hk1.size)
  clear hown hg1 hk1 hn hv0 hmap HM
  obtain ⟨it, hit⟩ : ∃ it, W1.heap.size = it := ⟨_, rfl⟩
  rw [hit] at hrg HIT hb1 HBD
  clear hit
  go_enter Try.func9, Try.ntmps9
  go_wp2_with (go_at_call 13; refine (ready_yes _ b m t2).mono ?_; rintro e w' ⟨rfl, rfl⟩)
  go_loopw [3] (fun v wr => ∃ seen : List Nat, ∃ cs, Hid (seen.Nodup ∧ ∀ i ∈ seen, i < n) ∧ Hid (CL wr w.heap.size v cs) ∧ Hid (cs.map (·.d) = seen.map (dtAt gs)) ∧ Hid (wr.heap[it]? = some (.mapIter (some m) n seen.toArray n)) ∧ Hid (Keep w wr)) (fun _ wr => n - seenN wr it)
  case atStart => exact ⟨[], [], ⟨List.nodup_nil, fun i hi => (by cases hi)⟩, HCL.out, rfl, HIT.out, HK2.out⟩
  case round =>
    obtain ⟨seen, cs, HS, HC, HD, HI, HK⟩ := hrel
    have hnd := HS.out.1
    have hlt := HS.out.2
    have HT := Lib.hid (H.out.keep HK.out)
    have hmp : wr.heap[m]? = some (.map (entries gs).toArray n) := by rw [← HN.out]; exact HT.out.map
    have hnx := run_next_at (P := Try.prog) wr 0 it m n n seen.toArray (entries gs).toArray n HI.out hmp (fun x hx => by
      have h9 : x.born ∈ (entries gs).map (·.born) := List.mem_map_of_mem (by simpa using hx)
      rw [entries_born, HN.out] at h9
      exact List.mem_range.1 h9) (Nat.le_refl _)
    rcases hnx with ⟨h0, hrun⟩ | ⟨e, he, w1, hw1, hrun⟩
    · have HALL := Lib.hid (left_none gs seen h0)
      clear h0 hmp hnd hlt
      have hcl : cs.length = seen.length := by have := congrArg List.length HD.out; simpa using this
      have hsl := nodup_lt n seen HS.out.1 HS.out.2
      obtain ⟨A, c, rfl, _⟩ := HC.out.own.sl cp_len (by omega)
      have HKEY := Lib.hid (show ∀ x ∈ cs, x.d.key.length = by_ from fun x hx => by
        have h1 : x.d ∈ cs.map (·.d) := List.mem_map_of_mem hx
        rw [HD.out] at h1
        obtain ⟨i, hi, h2⟩ := List.mem_map.1 h1
        have hin : i < gs.length := by rw [HN.out]; exact HS.out.2 i hi
        have h3 : dtAt gs i = gs[i].2.dt := by unfold dtAt; rw [List.getD_eq_getElem?_getD, List.getElem?_eq_getElem hin]; rfl
        rw [← h2, h3]
        exact (H.out.at_ gs[i] (List.getElem_mem hin)).2)
      have HPM := Lib.hid (show (cs.map (·.d)).Perm (gs.map (·.2.dt)) by
        rw [HD.out]
        have h1 : seen.Perm (List.range n) := (List.perm_ext_iff_of_nodup HS.out.1 List.nodup_range).2 fun i => ⟨fun hi => List.mem_range.2 (HS.out.2 i hi), fun hi => HALL.out i (by rw [HN.out]; exact List.mem_range.1 hi)⟩
        refine (h1.map (dtAt gs)).trans (List.Perm.of_eq ?_)
        rw [← HN.out]
        apply List.ext_getElem
        · simp
        · intro i h4 h5
          have hin : i < gs.length := by simpa using h5
          simp only [List.getElem_map, List.getElem_range]
          unfold dtAt
          rw [List.getD_eq_getElem?_getD, List.getElem?_eq_getElem hin]
          rfl)
      have HSO := Lib.hid (sort_any A c cs w.heap.size by_ wr HC.out HKEY.out hby (by omega))
      have HCN := Lib.hid hcl
      clear hcl hsl
      obtain ⟨k, hk⟩ : ∃ k, cs.length = k := ⟨_, rfl⟩
      have HKK := Lib.hid hk
      rw [hk] at HSO ⊢
      clear hk
      go_wp2_with (go_at_call 16; refine Zone.hold ?_)
      refine Zone.unhold ?_
      refine HSO.out.mono ?_
      rintro e w5 ⟨cs', rfl, hc5, hp5, hs5, hg5⟩
      have HFIN := Lib.hid (And.intro hc5 (And.intro hp5 (And.intro hs5 hg5)))
      clear hc5 hp5 hs5 hg5 hrun
      go_wp2
      go_ret
      obtain ⟨hc5, hp5, hs5, hg5⟩ := HFIN.out
      have hcw := HC.out
      rw [HKK.out] at hcw
      exact ⟨_, rfl, cs', hc5, (hp5.map _).trans HPM.out, hs5, HK.out.grown hg5 (fun j e => (hcw.own.lt j e).1)⟩
    · obtain ⟨i, hi, rfl, hni⟩ := left_mem gs seen e he
      clear he
      obtain ⟨w2, hw2⟩ : ∃ w2, w2 = ChangeMaps.setBlock w1 it (.mapIter (some m) n (seen.toArray.push i) n) := ⟨_, rfl⟩
      have hi1 : w1.heap[it]? = some (.mapIter (some m) n seen.toArray n) := by rcases hw1 with rfl | rfl <;> exact HI.out
      have hk1 : Keep wr w1 := by
        rcases hw1 with rfl | rfl
        · exact Keep.refl _
        · exact (Keep.refl _).drew
      have HT2 := Lib.hid (show Turn wr w2 [it] from (Turn.keep hk1 [it]).trans (hw2 ▸ turn_setBlock w1 it _))
      have HI2 := Lib.hid (show w2.heap[it]? = some (.mapIter (some m) n (seen.toArray.push i) n) by
        rw [hw2]
        simp only [ChangeMaps.setBlock]
        rw [Array.getElem?_setIfInBounds_self_of_lt (Array.getElem?_eq_some_iff.1 hi1).1])
      have HKW := Lib.hid (HK.out.after' HT2.out HBD.out)
      have HC2 := Lib.hid (HC.out.iter HI.out HT2.out)
      have hmp2 : w2.heap[m]? = some (.map (entries gs).toArray n) := by rw [← HN.out]; exact (H.out.keep HKW.out).map
      have hent := run_entry_at (P := Try.prog) w2 it m n seen.toArray (entries gs).toArray n ⟨keyV gs[i].1, .pointer (some ⟨gs[i].2.sp, 0, none⟩), i⟩ HI2.out hmp2 (by rw [← entries_at gs i hi]; simp) (by
        have h9 := entries_born gs
        simp only [List.toList_toArray] at h9 ⊢
        rw [h9]
        exact List.nodup_range)
      rw [← hw2] at hrun
      have HGA := Lib.hid ((H.out.keep HKW.out).at_ gs[i] (List.getElem_mem hi))
      have HDT := Lib.hid (show dtAt gs i = gs[i].2.dt by unfold dtAt; rw [List.getD_eq_getElem?_getD, List.getElem?_eq_getElem hi]; rfl)
      have HIN := Lib.hid (show i < n ∧ i ∉ seen from ⟨by rw [← HN.out]; exact hi, hni⟩)
      simp only at hent hrun
      generalize keyV gs[i].1 = kk at hent hrun
      generalize gs[i].2 = g at hent hrun HGA HDT
      clear hw2 hi1 hk1 hw1 hmp hmp2 hni hi hnd hlt HT
      go_wp2_with (go_at_call 15; refine Zone.hold ?_)
      refine Zone.unhold ?_
      refine (copied_any w2 lo g HGA.out.1 (by have := HGA.out.2; omega)).mono ?_
      rintro e w3 ⟨x, rfl, hxd, hxa, hk3⟩
      rw [show (Value.agg x.cells.toArray) = .agg #[.slice x.kA x.d.key.length x.kc, .int .i64 x.d.cnt, .slice x.sA 1 x.sc, .slice x.lA 1 x.lc, .slice x.gA 1 x.gc] from rfl]
      have HXA := Lib.hid hxa
      have HXD := Lib.hid (hxd.trans HDT.out.symm)
      have HK3 := Lib.hid hk3
      have hz23 := HKW.out.size
      clear hxd hxa hk3 hrun hent HDT HGA
      go_wp2_with (at_builtin; refine Zone.hold ?_)
      refine Zone.unhold ?_
      have hka : Keep w2 (w3.alloc (.cells x.cells.toArray 25)) := HK3.out.alloc _
      have hc3 := HC2.out.keep hka
      have hxa3 := HXA.out.keep ((Keep.refl w3).alloc (.cells x.cells.toArray 25))
      have hi3 := (hka.block it (Array.getElem?_eq_some_iff.1 HI2.out).1).trans HI2.out
      have hcl : cs.length = seen.length := by have := congrArg List.length HD.out; simpa using this
      have hsl := nodup_lt n (seen ++ [i]) (by rw [List.nodup_append]; exact ⟨HS.out.1, by simp, fun a ha b hb => by simp at hb; subst hb; intro e; subst e; exact HIN.out.2 ha⟩) (fun j hj => by rcases List.mem_append.1 hj with hj | hj; exact HS.out.2 j hj; simp at hj; subst hj; exact HIN.out.1)
      simp only [List.length_append, List.length_singleton] at hsl
      refine wpList_app elt_sum cp_len cp_one rfl (.tmp 24) (.tmp 27) rfl (ys := [x]) hc3.own rfl rfl (((row_alloc w3 25 x.cells).sl_blk (xs := [x]) (c := 1) cp_len (by simp) (by simp) (by decide))) (by simp; omega) (Nat.le_trans hz23 hka.size) ?_
      intro v1 w7 hown7 hg7 _
      have hlt7 : it < w7.heap.size := Nat.lt_of_lt_of_le (Array.getElem?_eq_some_iff.1 hi3).1 hg7.size
      have HC7 := Lib.hid (show CL w7 w.heap.size v1 (cs ++ [x]) from ⟨hown7, fun y hy => by
        rcases List.mem_append.1 hy with hy | hy
        · exact (hc3.at_ y hy).grown hc3.own hg7
        · rw [List.mem_singleton.1 hy]
          exact (hxa3.lower hz23).grown hc3.own hg7⟩)
      have HI7 := Lib.hid (show w7.heap[it]? = some (.mapIter (some m) n (seen ++ [i]).toArray n) from (hg7.block it (Array.getElem?_eq_some_iff.1 hi3).1 (fun e => own_obj_ne hc3.own hi3 e.symm)).trans (hi3.trans (by simp)))
      have HK7 := Lib.hid ((HKW.out.trans hka).grown hg7 (fun j e => (hc3.own.lt j e).1))
      have HD7 := Lib.hid (show (cs ++ [x]).map (·.d) = (seen ++ [i]).map (dtAt gs) by rw [List.map_append, List.map_append, HD.out]; exact congrArg (fun z => _ ++ [z]) HXD.out)
      have HM := Lib.hid (show n - seenN w7 it < n - seenN wr it by rw [seenN_of HI7.out, seenN_of HI.out]; simp; omega)
      clear hown7 hg7 hc3 hxa3 hi3 hka hcl hlt7 hsl
      go_wp2
      go_roundw
      case rel =>
        refine ⟨seen ++ [i], cs ++ [x], ⟨?_, ?_⟩, HC7.out, HD7.out, HI7.out, HK7.out⟩
        · rw [List.nodup_append]; exact ⟨HS.out.1, by simp, fun a ha b hb => by simp at hb; subst hb; intro e; subst e; exact HIN.out.2 ha⟩
        · exact fun j hj => by rcases List.mem_append.1 hj with hj | hj; exact HS.out.2 j hj; simp at hj; subst hj; exact HIN.out.1
      case measure => exact HM.out
end Go.Proofs.Ytpefhleglhbfaaa
