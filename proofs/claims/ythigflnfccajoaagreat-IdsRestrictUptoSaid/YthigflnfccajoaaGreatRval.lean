
/- The document's Size, TestSize and Great, of a question that holds a filter alone; its columns' places. -/
import Derived.WalkKit
import Derived.Lib.Hide
import Derived.WalkSpells
import Derived.WalkLawsBesides
import Derived.BigQuiet
import Derived.Shelf.Abstract
import Derived.Test.YthigflnfccajoaaGreatQtree
import Derived.Test.YthigflnfccajoaaGreatQtakes
import Derived.Deep.RegionWith
import Derived.Deep.CutRange
import Derived.Deep.DeepCutAuto
import Derived.Deep.CutBlock
import Derived.Test.YthigflnfccajoaaGreatQvalid
import Derived.RegionTactic
import Derived.Test.YthigflnfccajoaaGreatQkinds
import Derived.BigRegion
import Derived.ChangeAlike
namespace Go.Proofs.YthigflnfccajoaaGreat
open Go.RowKit Go.Zone Go.Shelf
attribute [local go_sem] Zone.zone Zone.stepZ Zone.fill Zone.lookFs Zone.goes Zone.goesUpon Zone.dropFs Zone.cell_gro Zone.frozen_gro Zone.size_gro Zone.lt_add Zone.drew_gro Zone.tape_gro Zone.keep_refl
attribute [local go_sem] Zone.lt_add2 Zone.lt_add3 Zone.lt_add4 Zone.lt_add5 Zone.lt_add6 Zone.lt_add7 Zone.lt_add8 Zone.lt_add9 Zone.lt_add10 Zone.lt_add11 Zone.lt_add12
/-- How many nodes and values a filter has. -/
def sizeF (n : Nd) : Nat := 1 + n.vals.length + (n.kids.attach.map fun k => sizeF k.1).sum
termination_by SizeOf.sizeOf n
decreasing_by exact kid_lt k.2
theorem sizeF_eq (n : Nd) : sizeF n = 1 + n.vals.length + (n.kids.map sizeF).sum := by
  rw [sizeF]
  congr 2
  exact List.attach_map_val (l := n.kids) (f := sizeF)
theorem sizeF_mem : ∀ (l : List Nd) (k : Nd), k ∈ l → sizeF k ≤ (l.map sizeF).sum
  | x :: r, k, h => by
    rcases List.mem_cons.1 h with h | h
    · subst h; simp
    · have := sizeF_mem r k h
      simp; omega
theorem sizeF_take (l : List Nd) (i : Nat) (h : i < l.length) : ((l.take (i + 1)).map sizeF).sum = ((l.take i).map sizeF).sum + sizeF l[i] := by
  rw [List.take_succ_eq_append_getElem h, List.map_append, List.sum_append]; simp
theorem sizeF_le (l : List Nd) (i : Nat) : ((l.take i).map sizeF).sum ≤ (l.map sizeF).sum := by
  conv => rhs; rw [← List.take_append_drop i l, List.map_append, List.sum_append]
  omega
set_option maxRecDepth 100000 in
set_option maxHeartbeats 4000000 in
theorem size_any (w0 : World) (b : Nat) (n : Nd) (hn : Nd.In w0 b n) : ∀ (w : World), Keep w0 w → sizeF n ≤ 2000000000 →
    Calls Tryz.prog 61 #[n.v] w fun e w' => e = .returned (.int .i64 ((sizeF n : Nat) : Int)) ∧ Keep w w' := by
  induction hn with
  | mk n hk hv hA hB hi ih =>
  intro w hK0 hsz
  have HS := Lib.hid (hk.keep hK0)
  have hkl := hk.len
  have hvl := hv.len
  have IH := Lib.hid (show ∀ k ∈ n.kids, ∀ W, Keep w W → Calls Tryz.prog 61 #[k.v] W fun e w' => e = .returned (.int .i64 ((sizeF k : Nat) : Int)) ∧ Keep W w' from
    fun k hk W hW => ih k hk W (hK0.trans hW) (by have := sizeF_mem n.kids k hk; have := sizeF_eq n; omega))
  have HE := Lib.hid (sizeF_eq n)
  have hb : 1 + n.vals.length + (n.kids.map sizeF).sum ≤ 2000000000 := by rw [sizeF_eq] at hsz; exact hsz
  clear hk hv hA hB hi ih hK0 hsz
  obtain ⟨op, KA, kc, kids, col, cmp, VB, vd, vals⟩ := n
  simp only [Nd.v] at hkl hvl HS IH hb HE ⊢
  obtain ⟨t, ht⟩ : ∃ t, sizeF ⟨op, KA, kc, kids, col, cmp, VB, vd, vals⟩ = t := ⟨_, rfl⟩
  rw [ht] at HE ⊢
  clear ht
  go_enter Tryz.func61, Tryz.ntmps61
  go_wp2
  go_loopw [3, 4] (fun a i wr => ∃ k m : Nat, k ≤ kids.length ∧ i = .int .i64 k ∧ a = .int .i64 (m : Int) ∧ Hid (m = 1 + vals.length + ((kids.take k).map sizeF).sum) ∧ Hid (Keep w wr) ∧ wr.cell? ⟨w.heap.size, 1, none⟩ = some (.slice KA kids.length kc)) (fun _ i _ => kids.length - (intOf i).toNat)
  case atStart => exact ⟨0, 1 + vals.length, Nat.zero_le _, rfl, by go_num, by show _ = _; simp, (by repeat (first | exact Keep.refl _ | apply Keep.alloc | apply Keep.gro | apply Keep.drew | apply Keep.drewN)), by simp [go_sem]⟩
  case round =>
    obtain ⟨k, m, hk, rfl, rfl, HM, HK, hc1⟩ := hrel
    have hwk := World.block_lt_of_cell? _ _ hc1
    simp only at hwk
    by_cases hlt : k < kids.length
    · obtain ⟨g, off, rfl, hg, h0, h1, h2, h3, h4⟩ := sl_nd (HS.out.keep HK.out) k hlt
      have HT := Lib.hid (sizeF_take kids k hlt)
      have hm1 : m + sizeF kids[k] ≤ 2000000000 := by have := HT.out; have := sizeF_le kids (k + 1); have := HM.out; omega
      have HI := Lib.hid (IH.out kids[k] (List.getElem_mem hlt))
      obtain ⟨x, hx⟩ : ∃ x, sizeF kids[k] = x := ⟨_, rfl⟩
      rw [hx] at HI hm1 HT
      clear hx hb
      go_wp2_with (go_at_call 61; refine Zone.hold ?_)
      refine Zone.unhold ?_
      refine (HI.out _ (HK.out.trans (by repeat (first | exact Keep.refl _ | apply Keep.alloc | apply Keep.gro | apply Keep.drew | apply Keep.drewN)))).mono ?_
      rintro e w2 ⟨rfl, hk2⟩
      obtain ⟨p, rfl⟩ := gro_of_below _ hk2
      clear hk2
      go_wp2
      go_roundw
      case rel => exact ⟨k + 1, m + x, by omega, by go_num, by go_num, (by show _ = _; rw [HT.out, HM.out]; omega), HK.out.trans (by repeat (first | exact Keep.refl _ | apply Keep.alloc | apply Keep.gro | apply Keep.drew | apply Keep.drewN)), by simp [go_sem, hwk, hc1]⟩
      case measure => simp [intOf]; omega
    · have : k = kids.length := by omega
      subst this
      have hmt : m = t := by have := HM.out; have := HE.out; rw [List.take_length] at *; omega
      subst hmt
      clear hb
      go_wp2
      go_ret
      exact ⟨rfl, HK.out⟩
end Go.Proofs.YthigflnfccajoaaGreat
/- The document's Great, of a question that holds a filter alone; its columns' places, kinds, and how many values a comparison has. -/
namespace Go.Proofs.YthigflnfccajoaaGreat
open Go.RowKit Go.Zone Go.Shelf
attribute [local go_sem] Zone.zone Zone.stepZ Zone.fill Zone.lookFs Zone.goes Zone.goesUpon Zone.dropFs Zone.cell_gro Zone.frozen_gro Zone.size_gro Zone.lt_add Zone.drew_gro Zone.tape_gro Zone.keep_refl
attribute [local go_sem] Zone.lt_add2 Zone.lt_add3 Zone.lt_add4 Zone.lt_add5 Zone.lt_add6 Zone.lt_add7 Zone.lt_add8 Zone.lt_add9 Zone.lt_add10 Zone.lt_add11 Zone.lt_add12
/-- A question that holds a filter and one count. -/
@[reducible] def qv (n : Nd) (g : Option Addr) (c : Nat) : Value := .agg #[.int .u8 n.op, .slice n.A n.kids.length n.c, .string n.col, .int .u8 n.cmp, .slice n.B n.vals.length n.d, .slice none 0 0, .slice g 1 c,
  .int .u8 0, .slice none 0 0, .int .i64 0, .int .u8 0, .int .u8 0, .int .i64 0, .string ⟨#[]⟩, .slice none 0 0, .int .i64 0]
theorem testsize_any (w : World) : Calls Tryz.prog 62 #[.agg #[.int .u8 0, .slice none 0 0, .int .i64 0, .int .u8 0, .int .u8 0, .int .i64 0, .string ⟨#[]⟩]] w fun e w' => e = .returned (.int .i64 1) ∧ Keep w w' := by
  go_enter Tryz.func62, Tryz.ntmps62
  go_wp2
  go_loopw [3, 4] (fun a i wr => a = .int .i64 1 ∧ i = .int .i64 0 ∧ Hid (Keep w wr) ∧ wr.cell? ⟨w.heap.size, 1, none⟩ = some (.slice none 0 0)) (fun _ i _ => 0 - (intOf i).toNat)
  case atStart => exact ⟨rfl, rfl, (by repeat (first | exact Keep.refl _ | apply Keep.alloc | apply Keep.gro | apply Keep.drew | apply Keep.drewN)), by simp [go_sem]⟩
  case round =>
    obtain ⟨rfl, rfl, HK, hc1⟩ := hrel
    have hwk := World.block_lt_of_cell? _ _ hc1
    simp only at hwk
    go_wp2
    go_ret
    exact ⟨rfl, HK.out⟩
theorem rkind_any (c : Col) (w : World) : Calls Tryz.prog 88 #[c.v] w fun e w' => e = .returned (.int .u8 (kindC c.kind)) ∧ Keep w w' := by
  obtain ⟨k, n⟩ := c
  simp only [Col.v, kindC]
  go_enter Tryz.func88, Tryz.ntmps88
  go_wp2
  all_goals go_ret
  all_goals exact ⟨by simp_all, (by repeat (first | exact Keep.refl _ | apply Keep.alloc | apply Keep.gro | apply Keep.drew | apply Keep.drewN))⟩
def manyF (cmp : Int) : Int := if 1 ≤ cmp ∧ cmp ≤ 6 then 1 else if cmp = 7 then -1 else if cmp = 8 then 2 else -2
theorem many_any (cmp : Int) (w : World) : Calls Tryz.prog 115 #[.int .u8 cmp] w fun e w' => e = .returned (.int .i64 (manyF cmp)) ∧ w' = w := by
  unfold manyF
  by_cases h1 : 1 ≤ cmp
  · by_cases h2 : cmp ≤ 6
    · go_enter Tryz.func115, Tryz.ntmps115
      go_wp2
      go_ret
      exact ⟨rfl, rfl⟩
    · by_cases h7 : cmp = 7
      · subst h7
        go_enter Tryz.func115, Tryz.ntmps115
        go_wp2
        go_ret
        exact ⟨ret_int (by simp), rfl⟩
      · by_cases h8 : cmp = 8
        · subst h8
          go_enter Tryz.func115, Tryz.ntmps115
          go_wp2
          go_ret
          exact ⟨ret_int (by simp), rfl⟩
        · have e7 : (cmp == 7) = false := by simp [h7]
          have e8 : (cmp == 8) = false := by simp [h8]
          go_enter Tryz.func115, Tryz.ntmps115
          go_wp2
          go_ret
          exact ⟨rfl, rfl⟩
  · have e7 : (cmp == 7) = false := by simp; omega
    have e8 : (cmp == 8) = false := by simp; omega
    go_enter Tryz.func115, Tryz.ntmps115
    go_wp2
    go_ret
    exact ⟨rfl, rfl⟩
set_option maxHeartbeats 400000 in
theorem rcol_any (A : Option Addr) (c : Nat) (xs : List Col) (s : ByteArray) (w : World) (h : Sl w 2 Col.cells A c xs) :
    Calls Tryz.prog 49 #[.slice A xs.length c, .string s] w fun e w' => e = .returned (.int .i64 (idxP (isCol s) xs 0)) ∧ Keep w w' := by
  have hl := sl_len h
  go_enter Tryz.func49, Tryz.ntmps49
  go_wp2
  go_loopw [5] (fun i wr => ∃ k : Nat, k ≤ xs.length ∧ i = .int .i64 k ∧ Hid (Keep w wr) ∧ Hid (∀ j, (h : j < xs.length) → j < k → isCol s xs[j] = false)) (fun i _ => xs.length - (intOf i).toNat)
  case atStart => exact ⟨0, Nat.zero_le _, rfl, Keep.refl _, fun j _ hj => absurd hj (Nat.not_lt_zero _)⟩
  case round =>
    obtain ⟨k, hk, rfl, HK, HR⟩ := hrel
    by_cases hlt : k < xs.length
    · obtain ⟨b, off, rfl, hb, h0, h1⟩ := sl_col (h.keep HK.out) k hlt
      clear h
      by_cases hq : isCol s xs[k] = true
      · have HQ := Lib.hid hq
        unfold isCol at hq
        generalize xs[k].name = nm at hq h0
        go_wp2
        go_ret
        exact ⟨ret_int (by rw [idxP_at (isCol s) xs 0 k HR.out, List.drop_eq_getElem_cons hlt]; simp [idxP, HQ.out]), HK.out⟩
      · have hq' : isCol s xs[k] = false := by simpa using hq
        have HQ := Lib.hid hq'
        unfold isCol at hq'
        clear hq
        generalize xs[k].name = nm at hq' h0
        go_wp2
        go_roundw
        case rel => exact ⟨k + 1, by omega, by go_num, HK.out, fun j hj hjk => by
          by_cases e : j = k
          · subst e; exact HQ.out
          · exact HR.out j hj (by omega)⟩
        case measure => simp [intOf]; omega
    · have : k = xs.length := by omega
      subst this
      go_wp2
      go_ret
      exact ⟨ret_int (by rw [idxP_at (isCol s) xs 0 xs.length fun j hj _ => HR.out j hj (by omega)]; simp [idxP]), HK.out⟩
set_option maxHeartbeats 1000000 in
theorem great_any (w0 : World) (b : Nat) (n : Nd) (hn : Nd.In w0 b n) (g : Option Addr) (c : Nat) (w : World) (hK : Keep w0 w) (hsz : sizeF n ≤ 2000000000) :
    Calls Tryz.prog 26 #[qv n g c] w fun e w' => e = .returned (.bool (decide (600 < sizeF n))) ∧ Keep w w' := by
  have HZ := Lib.hid (fun W (hW : Keep w W) => size_any w0 b n hn W (hK.trans hW) hsz)
  have hkl := hn.kids_.len
  have hvl := hn.vals_.len
  clear hn hK
  obtain ⟨op, KA, kc, kids, col, cmp, VB, vd, vals⟩ := n
  simp only [Nd.v, qv] at hkl hvl HZ ⊢
  obtain ⟨t, ht⟩ : ∃ t, sizeF ⟨op, KA, kc, kids, col, cmp, VB, vd, vals⟩ = t := ⟨_, rfl⟩
  rw [ht] at HZ hsz ⊢
  clear ht
  by_cases h6 : 600 < t
  · have h6' : decide ((600 : Int) < (t : Int)) = true := by simp; omega
    rw [decide_eq_true h6]
    go_enter Tryz.func26, Tryz.ntmps26
    go_wp2_with (go_at_call 61; refine (HZ.out _ (by repeat (first | exact Keep.refl _ | apply Keep.alloc | apply Keep.gro | apply Keep.drew | apply Keep.drewN))).mono ?_; rintro e w' ⟨rfl, hk'⟩; obtain ⟨p, rfl⟩ := gro_of_below _ hk'; clear hk')
    go_ret
    exact ⟨rfl, (by repeat (first | exact Keep.refl _ | apply Keep.alloc | apply Keep.gro | apply Keep.drew | apply Keep.drewN))⟩
  · have h6' : decide ((600 : Int) < (t : Int)) = false := by simp; omega
    rw [decide_eq_false h6]
    go_enter Tryz.func26, Tryz.ntmps26
    go_wp2_with (first | (go_at_call 61; refine (HZ.out _ (by repeat (first | exact Keep.refl _ | apply Keep.alloc | apply Keep.gro | apply Keep.drew | apply Keep.drewN))).mono ?_; rintro e w' ⟨rfl, hk'⟩; obtain ⟨p, rfl⟩ := gro_of_below _ hk'; clear hk') | (go_at_call 62; refine (testsize_any _).mono ?_; rintro e w' ⟨rfl, hk'⟩; obtain ⟨q, rfl⟩ := gro_of_below _ hk'; clear hk'))
    go_ret
    exact ⟨rfl, (by repeat (first | exact Keep.refl _ | apply Keep.alloc | apply Keep.gro | apply Keep.drew | apply Keep.drewN))⟩
end Go.Proofs.YthigflnfccajoaaGreat
/- What the document says is wrong with a question: the gatherer's flags; a filter's leaf. -/
namespace Go.Proofs.YthigflnfccajoaaGreat
open Go.RowKit Go.Zone Go.Shelf
attribute [local go_sem] Zone.zone Zone.stepZ Zone.fill Zone.lookFs Zone.goes Zone.goesUpon Zone.dropFs Zone.cell_gro Zone.frozen_gro Zone.size_gro Zone.lt_add Zone.drew_gro Zone.tape_gro Zone.keep_refl
attribute [local go_sem] Zone.lt_add2 Zone.lt_add3 Zone.lt_add4 Zone.lt_add5 Zone.lt_add6 Zone.lt_add7 Zone.lt_add8 Zone.lt_add9 Zone.lt_add10 Zone.lt_add11 Zone.lt_add12
/-- The document's gatherer in block b: its columns, its flags. -/
structure Wg (w : World) (b : Nat) (A : Option Addr) (c : Nat) (cols : List Col) (fl : Nat → Bool) : Prop where
  c0 : w.cell? ⟨b, 0, none⟩ = some (.slice A cols.length c)
  cf : ∀ i, i < 20 → w.cell? ⟨b, i + 1, none⟩ = some (.bool (fl i))
  ff : ∀ i, i < 20 → w.frozen? ⟨b, i + 1, none⟩ = false
  na : ∀ g off, A = some ⟨g, off, none⟩ → 0 < cols.length → g ≠ b
def quiet (fl : Nat → Bool) : Prop := ∀ i, 1 ≤ i → i < 20 → fl i = false
/-- Some flags more are set; where none is, P is so. -/
def Told (w w' : World) (b : Nat) (A : Option Addr) (c : Nat) (cols : List Col) (fl : Nat → Bool) (P : Prop) : Prop := ∃ fl', Wg w' b A c cols fl' ∧ (∀ i, fl i = true → fl' i = true) ∧ (quiet fl' → P) ∧ w.grownBy w' (some b)
section
variable {w w' w1 w2 : World} {b c : Nat} {A : Option Addr} {cols : List Col} {fl : Nat → Bool} {P Q : Prop}
theorem Wg.lt (h : Wg w b A c cols fl) : b < w.heap.size := World.block_lt_of_cell? w _ h.c0
theorem Wg.keep (h : Wg w b A c cols fl) (hk : Keep w w') : Wg w' b A c cols fl :=
  ⟨(hk.cell (p := ⟨b, 0, none⟩) h.lt).trans h.c0, fun i hi => (hk.cell (p := ⟨b, i + 1, none⟩) h.lt).trans (h.cf i hi), fun i hi => (hk.frozen (p := ⟨b, i + 1, none⟩) h.lt).trans (h.ff i hi), h.na⟩
theorem Wg.set (h : Wg w b A c cols fl) (k : Nat) : Wg (w.setCell ⟨b, k + 1, none⟩ (.bool true)) b A c cols (fun i => if i = k then true else fl i) :=
  ⟨by rw [World.cell?_setCell_other _ _ _ _ (by simp)]; exact h.c0, fun i hi => by
    by_cases e : i = k
    · subst e; exact (World.cell?_setCell_same _ _ _ (h.cf i hi)).trans (by simp)
    · rw [World.cell?_setCell_other _ _ _ _ (by simp [e]), if_neg e]; exact h.cf i hi, fun i hi => by rw [World.frozen?_setCell]; exact h.ff i hi, h.na⟩
theorem Wg.cols_ (h : Wg w b A c cols fl) (hg : w1.grownBy w2 (some b)) (hs : Sl w1 2 Col.cells A c cols) : Sl w2 2 Col.cells A c cols := By.sl hg hs (fun g off hA hp he => h.na g off hA hp (Option.some.inj he))
theorem Told.refl (h : Wg w b A c cols fl) (hp : P) : Told w w b A c cols fl P := ⟨fl, h, fun _ h => h, fun _ => hp, World.grownBy.refl _ _⟩
theorem Told.of (h : Wg w b A c cols fl) (hk : Keep w w') (hp : P) : Told w w' b A c cols fl P := ⟨fl, h.keep hk, fun _ h => h, fun _ => hp, By.keep hk⟩
theorem Told.set (h : Wg w b A c cols fl) (k : Nat) (h1 : 1 ≤ k) (h2 : k < 20) : Told w (w.setCell ⟨b, k + 1, none⟩ (.bool true)) b A c cols fl P :=
  ⟨_, h.set k, fun i hi => (by show (if i = k then true else fl i) = true; rw [hi]; split <;> rfl), (fun hq => by have := hq k h1 h2; simp at this), By.set _ _ _⟩
theorem Told.trans (h : Told w w1 b A c cols fl P) (h2 : ∀ fl1, Wg w1 b A c cols fl1 → Told w1 w2 b A c cols fl1 Q) : Told w w2 b A c cols fl (P ∧ Q) := by
  obtain ⟨f1, hw1, hm1, hp1, hg1⟩ := h
  obtain ⟨f2, hw2, hm2, hp2, hg2⟩ := h2 f1 hw1
  have hq1 : quiet f2 → quiet f1 := fun hq i a b => by
    have := hq i a b
    cases h : f1 i with
    | false => rfl
    | true => rw [hm2 i h] at this; cases this
  exact ⟨f2, hw2, fun i hi => hm2 i (hm1 i hi), fun hq => ⟨hp1 (hq1 hq), hp2 hq⟩, By.trans hg1 hg2⟩
theorem Told.glue {f1 : Nat → Bool} (hm1 : ∀ i, fl i = true → f1 i = true) (hp1 : quiet f1 → P) (hg1 : w.grownBy w1 (some b)) (h : Told w1 w2 b A c cols f1 Q) : Told w w2 b A c cols fl (P ∧ Q) := by
  obtain ⟨f2, hw2, hm2, hp2, hg2⟩ := h
  have hq1 : quiet f2 → quiet f1 := fun hq i a b => by
    have := hq i a b
    cases h : f1 i with
    | false => rfl
    | true => rw [hm2 i h] at this; cases this
  exact ⟨f2, hw2, fun i hi => hm2 i (hm1 i hi), fun hq => ⟨hp1 (hq1 hq), hp2 hq⟩, By.trans hg1 hg2⟩
theorem Told.imp (h : Told w w' b A c cols fl P) (hi : P → Q) : Told w w' b A c cols fl Q := by
  obtain ⟨f1, a, b, c, d⟩ := h
  exact ⟨f1, a, b, fun hq => hi (c hq), d⟩
theorem _root_.Go.Proofs.YthigflnfccajoaaGreat.At.keep' {w1 w2 : World} {g : Nat} {vs : List Value} (ha : At w1 g vs) (h : Keep w1 w2) : At w2 g vs := At.keep h ha
theorem Told.from (hk : Keep w w1) (h : Told w1 w2 b A c cols fl P) : Told w w2 b A c cols fl P := by
  obtain ⟨f1, a, b, c, d⟩ := h
  exact ⟨f1, a, b, c, By.trans (By.keep hk) d⟩
theorem Told.wg (h : Told w w' b A c cols fl P) : ∃ fl', Wg w' b A c cols fl' := by obtain ⟨f1, a, _⟩ := h; exact ⟨f1, a⟩
theorem Told.by_ (h : Told w w' b A c cols fl P) : w.grownBy w' (some b) := by obtain ⟨f1, _, _, _, d⟩ := h; exact d
/-- some more of the same flags' world -/
theorem Told.after (h : Told w w1 b A c cols fl P) (hk : Keep w1 w2) : Told w w2 b A c cols fl P := by
  obtain ⟨f1, a, b, c, d⟩ := h
  exact ⟨f1, a.keep hk, b, c, By.trans d (By.keep hk)⟩
theorem Told.setAfter (h : Told w w1 b A c cols fl P) (k : Nat) (h1 : 1 ≤ k) (h2 : k < 20) : Told w (w1.setCell ⟨b, k + 1, none⟩ (.bool true)) b A c cols fl Q :=
  (h.trans (Q := Q) fun _ hw => Told.set hw k h1 h2).imp fun h => h.2
end
def leafP1 (kl vl : Nat) (K : Int) : Prop := kl = 0 ∧ K ≠ -2 ∧ (0 ≤ K → (vl : Int) = K)
def badL1 (kl vl : Nat) (K : Int) : Bool := decide (0 < kl) || K == -2 || (decide (0 ≤ K) && (vl : Int) != K)
theorem badL1_not {kl vl : Nat} {K : Int} (h : badL1 kl vl K = false) : leafP1 kl vl K := by
  simp [badL1] at h
  exact ⟨by omega, by omega, fun h1 => by omega⟩
def leafP2 (cols : List Col) (col : ByteArray) : Prop := ∃ k, ∃ h : k < cols.length, idxP (isCol col) cols 0 = (k : Int) ∧ cols[k].kind ≠ 3
def leafP3 (cols : List Col) (col : ByteArray) (v : Val) : Prop := mayV v = true ∧ ∀ k, (h : k < cols.length) → idxP (isCol col) cols 0 = (k : Int) → v.k = kindC cols[k].kind
theorem leafP3_succ {cols : List Col} {col : ByteArray} {vals : List Val} {m : Nat} {h : m < vals.length} (h1 : ∀ j, (h : j < vals.length) → j < m → leafP3 cols col vals[j]) (h2 : leafP3 cols col vals[m]) : ∀ j, (h : j < vals.length) → j < m + 1 → leafP3 cols col vals[j] := fun j hj hjm => by
  by_cases e : j = m
  · subst e; exact h2
  · exact h1 j hj (by omega)
def leafWf (cols : List Col) (n : Nd) : Prop := leafP1 n.kids.length n.vals.length (manyF n.cmp) ∧ leafP2 cols n.col ∧ ∀ v ∈ n.vals, leafP3 cols n.col v
section
variable {b c : Nat} {A : Option Addr} {cols : List Col} {fl : Nat → Bool}
set_option maxRecDepth 100000 in
set_option maxHeartbeats 8000000 in
theorem rleaf_any (n : Nd) (w : World) (h : Wg w b A c cols fl) (hc : Sl w 2 Col.cells A c cols) (hn : Nd.In w b n) :
    Calls Tryz.prog 87 #[.pointer (some ⟨b, 0, none⟩), n.v] w fun r w' => r = .returned (.tuple #[]) ∧ Told w w' b A c cols fl (leafWf cols n) := by
  have H := Lib.hid h
  have HC := Lib.hid hc
  have HN := Lib.hid hn
  have hb := h.lt
  have hkl := hn.kids_.len
  have hvl := hn.vals_.len
  have f6 := h.ff 5 (by decide)
  have c6 := h.cf 5 (by decide)
  clear h hc hn
  obtain ⟨op, KA, kc, kids, col, cmp, VB, vd, vals⟩ := n
  unfold leafWf
  simp only [Nd.v] at hkl hvl ⊢
  have HM := Lib.hid (fun W => many_any cmp W)
  obtain ⟨K, hK⟩ : ∃ K, manyF cmp = K := ⟨_, rfl⟩
  rw [hK] at HM ⊢
  clear hK
  go_enter Tryz.func87, Tryz.ntmps87
  obtain ⟨w1, hw1⟩ : ∃ w1, w1 = w.alloc (.cells #[.int .u8 op, .slice KA kids.length kc, .string col, .int .u8 cmp, .slice VB vals.length vd] 27) := ⟨_, rfl⟩
  have HW1 := Lib.hid hw1
  clear hw1
  go_upto_region 2 with (go_at_call 115; refine (HM.out _).mono ?_; rintro e w' ⟨rfl, rfl⟩)
  go_cut [28] from 10 to 28 (fun s28 wx => ∃ bb, s28 = .bool bb ∧ Hid (bb = badL1 kids.length vals.length K) ∧ Hid (wx = w1))
  case first =>
    (cases h0 : decide (0 < kids.length)) <;> (cases h1 : (K == -2)) <;> (cases h2 : decide (0 ≤ K)) <;> (cases h3 : ((vals.length : Int) != K))
    all_goals
      go_wp2_with fail
      go_meet
      exact ⟨_, rfl, by simp only [badL1, h0, h1, h2, h3]; rfl, HW1.out.symm⟩
  case rest =>
    obtain ⟨bb, rfl, HB, HE⟩ := hcut
    rename World => wb
    have HX := Lib.hid (show At wb w.heap.size [.int .u8 op, .slice KA kids.length kc, .string col, .int .u8 cmp, .slice VB vals.length vd] by rw [HE.out, HW1.out]; exact at_alloc _ [_, _, _, _, _] _)
    have HXB := HX
    have HKW := Lib.hid (show Keep w wb by rw [HE.out, HW1.out]; exact (by repeat (first | exact Keep.refl _ | apply Keep.alloc | apply Keep.gro | apply Keep.drew | apply Keep.drewN)))
    have HT := Lib.hid (show Told wb wb b A c cols fl True from Told.refl (H.out.keep HKW.out) trivial)
    have hz0 : w.heap.size < wb.heap.size := by rw [HE.out, HW1.out]; simp
    clear HE HW1 H f6 c6 HM
    go_upto_if 28 with fail
    go_cut [] from 29 to 32 (fun wx => Hid (Told wb wx b A c cols fl (leafP1 kids.length vals.length K)))
    case first =>
      cases bb
      · go_wp2_with fail
        go_meet
        exact HT.out.imp fun _ => badL1_not HB.out.symm
      · obtain ⟨flx, hwx⟩ := HT.out.wg
        have fx := hwx.ff 5 (by decide)
        have cx := hwx.cf 5 (by decide)
        have bx := hwx.lt
        clear hwx
        go_wp2_with fail
        go_meet
        exact HT.out.setAfter 5 (by decide) (by decide)
    case rest =>
      rename World => w2
      have HT2 := Lib.hid hcut.out
      have HX2 := Lib.hid (At.by_ (HT2.out.by_) HX.out (by intro h; have := Option.some.inj h; omega))
      have HKW2 := Lib.hid HT2.out.by_
      clear hcut HT HX HB
      have x4 := HX2.out 4 _ rfl
      go_upto_region 4 with fail
      go_cut [40] from 33 to 40 (fun s40 wx => ∃ bb, s40 = .bool bb ∧ Hid (wx = w2))
      case first =>
        (cases h0 : (K == -1)) <;> (cases h1 : decide ((100 : Int) < (vals.length : Int)))
        all_goals
          go_wp2_with fail
          go_meet
          exact ⟨_, rfl, rfl⟩
      case rest =>
        obtain ⟨bb, rfl, HE⟩ := hcut
        rename World => w2'
        have he := HE.out
        subst he
        clear HE x4
        go_upto_if 40 with fail
        go_cut [] from 41 to 44 (fun wx => Hid (Told wb wx b A c cols fl (leafP1 kids.length vals.length K)))
        case first =>
          cases bb
          · go_wp2_with fail
            go_meet
            exact HT2.out
          · obtain ⟨flx, hwx⟩ := HT2.out.wg
            have fx := hwx.ff 3 (by decide)
            have cx := hwx.cf 3 (by decide)
            have bx := hwx.lt
            clear hwx
            go_wp2_with fail
            go_meet
            exact HT2.out.setAfter 3 (by decide) (by decide)
        case rest =>
          rename World => w3
          have HT3 := Lib.hid hcut.out
          have HX3 := Lib.hid (At.by_ (HT3.out.by_) (show At wb w.heap.size _ from HXB.out) (by intro h; have := Option.some.inj h; omega))
          have HC3 := Lib.hid (show Sl w3 2 Col.cells A c cols by obtain ⟨f, hw⟩ := HT3.out.wg; exact hw.cols_ HT3.out.by_ (HC.out.keep HKW.out))
          have HCOL := Lib.hid (fun W (hS : Sl W 2 Col.cells A c cols) => rcol_any A c cols col W hS)
          obtain ⟨cc, hcc⟩ : ∃ cc, idxP (isCol col) cols 0 = cc := ⟨_, rfl⟩
          rw [hcc] at HCOL
          have HCC := Lib.hid hcc
          have x2 := HX3.out 2 _ rfl
          have hxw := World.block_lt_of_cell? _ _ x2
          have c0 := (show w3.cell? ⟨b, 0, none⟩ = some (.slice A cols.length c) by obtain ⟨f, hw⟩ := HT3.out.wg; exact hw.c0)
          have hb3 := World.block_lt_of_cell? _ _ c0
          simp only at hxw hb3
          clear hcut HT2 HX2 HKW2 hcc
          go_wp2
          first | refine Zone.wp_region_all_gro (by kernel_rfl) (by kernel_rfl) ?_ | refine Zone.wp_region_all (by kernel_rfl) (by kernel_rfl) ?_
          repeat
            refine Zone.wpZ_step (fun K hK => ?_)
            go_simp
            first
            | (refine hK _ _ ?_; clear hK K)
            | (apply Exists.intro
               refine ⟨fun p => ?_, hK _ _ ?_⟩
               ((go_at_call 49; exact Zone.zc (HCOL.out _ (HC3.out.keep (by repeat (first | exact Keep.refl _ | apply Keep.alloc | apply Keep.gro | apply Keep.drew | apply Keep.drewN))))))
               clear hK K)
          refine Zone.wpZ_nil ?_
          intro p
          simp only [Zone.fill]
          have HT4 := Lib.hid (HT3.out.after (show Keep w3 (w3.gro p) from (by repeat (first | exact Keep.refl _ | apply Keep.alloc | apply Keep.gro | apply Keep.drew | apply Keep.drewN))))
          have HX4 := Lib.hid (HX3.out.keep' (show Keep w3 (w3.gro p) from (by repeat (first | exact Keep.refl _ | apply Keep.alloc | apply Keep.gro | apply Keep.drew | apply Keep.drewN))))
          have HC4 := Lib.hid (HC3.out.keep (show Keep w3 (w3.gro p) from (by repeat (first | exact Keep.refl _ | apply Keep.alloc | apply Keep.gro | apply Keep.drew | apply Keep.drewN))))
          generalize hw4 : w3.gro p = w4 at HT4 HX4 HC4 ⊢
          clear hw4 HT3 HX3 HC3 x2 hxw c0 hb3 HCOL
          have c0 := (show w4.cell? ⟨b, 0, none⟩ = some (.slice A cols.length c) by obtain ⟨f, hw⟩ := HT4.out.wg; exact hw.c0)
          have hb3 := World.block_lt_of_cell? _ _ c0
          simp only at hb3
          have HCK := Lib.hid (show cc < 0 ∨ ∃ k : Nat, ∃ h : k < cols.length, cc = (k : Int) from by
            by_cases h : cc < 0
            · exact .inl h
            · have h1 := HCC.out
              obtain ⟨k, hk, h2, _⟩ := idxP_lt (isCol col) cols 0 (by omega)
              exact .inr ⟨k, hk, by omega⟩)
          go_upto_if 53 with fail
          go_cut [] from 54 to 70 (fun wx => Hid (Told wb wx b A c cols fl (leafP1 kids.length vals.length K ∧ leafP2 cols col)))
          case first =>
            rcases HCK.out with h0 | ⟨k, hk, rfl⟩
            · obtain ⟨flx, hwx⟩ := HT4.out.wg
              have fx := hwx.ff 7 (by decide)
              have cx := hwx.cf 7 (by decide)
              clear hwx
              go_wp2_with fail
              go_meet
              exact HT4.out.setAfter 7 (by decide) (by decide)
            · obtain ⟨g, off, rfl, hg, k0, k1⟩ := sl_col HC4.out k hk
              have HP := Lib.hid (fun h3 => ⟨k, hk, HCC.out, h3⟩ : cols[k].kind ≠ 3 → leafP2 cols col)
              generalize cols[k].kind = kk at k1 HP
              cases h3 : (kk == 3)
              · go_wp2_with fail
                go_meet
                exact HT4.out.imp fun h => ⟨h, HP.out (by simpa using h3)⟩
              · obtain ⟨flx, hwx⟩ := HT4.out.wg
                have fx := hwx.ff 9 (by decide)
                have cx := hwx.cf 9 (by decide)
                clear hwx
                go_wp2_with fail
                go_meet
                exact HT4.out.setAfter 9 (by decide) (by decide)
          case rest =>
            rename World => w5
            have HT5 := Lib.hid hcut.out
            have HX5 := Lib.hid (At.by_ (HT5.out.by_) HXB.out (by intro h; have := Option.some.inj h; omega))
            have hw5 := World.block_lt_of_cell? _ _ (HX5.out 0 _ rfl)
            simp only at hw5
            clear hcut HT4 HX4 HC4 c0 hb3
            go_wp2
            go_loopw [6] (fun i wr => ∃ m : Nat, m ≤ vals.length ∧ i = .int .i64 m ∧ Hid (Told wb wr b A c cols fl ((leafP1 kids.length vals.length K ∧ leafP2 cols col) ∧ ∀ j, (h : j < vals.length) → j < m → leafP3 cols col vals[j]))) (fun i _ => vals.length - (intOf i).toNat)
            case atStart => exact ⟨0, Nat.zero_le _, rfl, HT5.out.imp fun h => ⟨h, fun j _ hj => absurd hj (Nat.not_lt_zero _)⟩⟩
            case round =>
              obtain ⟨m, hm, rfl, HTr⟩ := hrel
              have hX := At.by_ (HTr.out.by_) HXB.out (by intro h; have := Option.some.inj h; omega)
              have x4 := hX 4 _ rfl
              have hwr := World.block_lt_of_cell? _ _ x4
              simp only at hwr
              by_cases hlt : m < vals.length
              · obtain ⟨fl1, hwg⟩ := HTr.out.wg
                have HWG := Lib.hid hwg
                have hS := By.sl (HTr.out.by_) (HN.out.keep HKW.out).vals_ (fun g off hg hp he => HN.out.neB g off hg hp (Option.some.inj he))
                simp only at hS
                obtain ⟨g, off, hA, hg, v0, v1, v2⟩ := sl_val hS m hlt
                subst hA
                clear hS hX hwg
                cases hmay : mayV vals[m]
                · have fx := HWG.out.ff 5 (by decide)
                  have cx := HWG.out.cf 5 (by decide)
                  have bx := HWG.out.lt
                  go_wp2_with (go_at_call 59; refine (rmay_any vals[m] _).mono ?_; rintro e w' ⟨rfl, hk⟩; (first | obtain ⟨p, rfl⟩ := Zone.gro_of_gro _ _ hk | obtain ⟨p, rfl⟩ := Zone.gro_of_below _ hk); clear hk)
                  go_roundw
                  case rel => exact ⟨m + 1, by omega, by go_num, (HTr.out.after (by repeat (first | exact Keep.refl _ | apply Keep.alloc | apply Keep.gro | apply Keep.drew | apply Keep.drewN))).setAfter 5 (by decide) (by decide)⟩
                  case measure => simp [intOf]; omega
                · rcases HCK.out with h0 | ⟨k, hk, hck⟩
                  · have h1 : decide (0 ≤ cc) = false := by simp; omega
                    have HP := Lib.hid (show leafP3 cols col vals[m] from ⟨hmay, fun k _ he => by have := HCC.out; omega⟩)
                    have bx := HWG.out.lt
                    clear h0
                    go_wp2_with (go_at_call 59; refine (rmay_any vals[m] _).mono ?_; rintro e w' ⟨rfl, hk⟩; (first | obtain ⟨p, rfl⟩ := Zone.gro_of_gro _ _ hk | obtain ⟨p, rfl⟩ := Zone.gro_of_below _ hk); clear hk)
                    first | refine Zone.wp_region_all_gro (by kernel_rfl) (by kernel_rfl) ?_ | refine Zone.wp_region_all (by kernel_rfl) (by kernel_rfl) ?_
                    repeat
                      refine Zone.wpZ_step (fun K hK => ?_)
                      go_simp
                      first
                      | (refine hK _ _ ?_; clear hK K)
                      | (apply Exists.intro
                         refine ⟨fun p => ?_, hK _ _ ?_⟩
                         (fail)
                         clear hK K)
                    refine Zone.wpZ_nil ?_
                    intro q
                    simp only [Zone.fill]
                    go_wp2
                    go_roundw
                    case rel => exact ⟨m + 1, by omega, by go_num, (HTr.out.after (by repeat (first | exact Keep.refl _ | apply Keep.alloc | apply Keep.gro | apply Keep.drew | apply Keep.drewN))).imp fun h => ⟨h.1, leafP3_succ h.2 HP.out⟩⟩
                    case measure => simp [intOf]; omega
                  · subst hck
                    have h1 : decide ((0 : Int) ≤ (k : Int)) = true := by simp
                    obtain ⟨g2, off2, rfl, hg2, k0, k1⟩ := sl_col (HWG.out.cols_ HTr.out.by_ (HC.out.keep HKW.out)) k hk
                    have HKC := Lib.hid (fun W => rkind_any cols[k] W)
                    have HP := Lib.hid (show vals[m].k = kindC cols[k].kind → leafP3 cols col vals[m] from fun he => ⟨hmay, fun k' _ he' => by
                      have : k' = k := by have := HCC.out; omega
                      subst this; exact he⟩)
                    have c0 := HWG.out.c0
                    have bx := HWG.out.lt
                    have fx := HWG.out.ff 9 (by decide)
                    have cx := HWG.out.cf 9 (by decide)
                    simp only [Col.v] at HKC
                    generalize cols[k] = ck at HKC HP k0 k1
                    obtain ⟨cn, ckk⟩ := ck
                    simp only at HKC HP k0 k1
                    have hvk : vals[m].k = vals[m].k := rfl
                    generalize kindC ckk = kd at HKC HP
                    clear hvk
                    cases hne : (vals[m].k != kd)
                    · go_wp2_with (go_at_call 59; refine (rmay_any vals[m] _).mono ?_; rintro e w' ⟨rfl, hk⟩; (first | obtain ⟨p, rfl⟩ := Zone.gro_of_gro _ _ hk | obtain ⟨p, rfl⟩ := Zone.gro_of_below _ hk); clear hk)
                      first | refine Zone.wp_region_all_gro (by kernel_rfl) (by kernel_rfl) ?_ | refine Zone.wp_region_all (by kernel_rfl) (by kernel_rfl) ?_
                      repeat
                        refine Zone.wpZ_step (fun K hK => ?_)
                        go_simp
                        first
                        | (refine hK _ _ ?_; clear hK K)
                        | (apply Exists.intro
                           refine ⟨fun p => ?_, hK _ _ ?_⟩
                           ((go_at_call 88; exact Zone.zc (HKC.out _)))
                           clear hK K)
                      refine Zone.wpZ_nil ?_
                      intro q
                      simp only [Zone.fill]
                      go_wp2
                      go_roundw
                      case rel => exact ⟨m + 1, by omega, by go_num, (HTr.out.after (by repeat (first | exact Keep.refl _ | apply Keep.alloc | apply Keep.gro | apply Keep.drew | apply Keep.drewN))).imp fun h => ⟨h.1, leafP3_succ h.2 (HP.out (by simpa using hne))⟩⟩
                      case measure => simp [intOf]; omega
                    · clear HP
                      go_wp2_with (go_at_call 59; refine (rmay_any vals[m] _).mono ?_; rintro e w' ⟨rfl, hk⟩; (first | obtain ⟨p, rfl⟩ := Zone.gro_of_gro _ _ hk | obtain ⟨p, rfl⟩ := Zone.gro_of_below _ hk); clear hk)
                      first | refine Zone.wp_region_all_gro (by kernel_rfl) (by kernel_rfl) ?_ | refine Zone.wp_region_all (by kernel_rfl) (by kernel_rfl) ?_
                      repeat
                        refine Zone.wpZ_step (fun K hK => ?_)
                        go_simp
                        first
                        | (refine hK _ _ ?_; clear hK K)
                        | (apply Exists.intro
                           refine ⟨fun p => ?_, hK _ _ ?_⟩
                           ((go_at_call 88; exact Zone.zc (HKC.out _)))
                           clear hK K)
                      refine Zone.wpZ_nil ?_
                      intro q
                      simp only [Zone.fill]
                      go_wp2
                      go_roundw
                      case rel => exact ⟨m + 1, by omega, by go_num, (HTr.out.after (by repeat (first | exact Keep.refl _ | apply Keep.alloc | apply Keep.gro | apply Keep.drew | apply Keep.drewN))).setAfter 9 (by decide) (by decide)⟩
                      case measure => simp [intOf]; omega
              · have hme : m = vals.length := by omega
                have HTF := Lib.hid (Told.from HKW.out HTr.out)
                subst hme
                clear HTr hX
                go_wp2
                exact bodyPost_end (v := .tuple #[]) (by simp [results, Tryz.results87, go_sem]) rfl ⟨rfl, HTF.out.imp fun h => ⟨h.1.1, h.1.2, fun v hv => by obtain ⟨j, hj, e⟩ := List.getElem_of_mem hv; rw [← e]; exact h.2 j hj hj⟩⟩
end
end Go.Proofs.YthigflnfccajoaaGreat
/- What the document says is wrong with a question: a filter's nodes. -/
namespace Go.Proofs.YthigflnfccajoaaGreat
open Go.RowKit Go.Zone Go.Shelf
attribute [local go_sem] Zone.zone Zone.stepZ Zone.fill Zone.lookFs Zone.goes Zone.goesUpon Zone.dropFs Zone.cell_gro Zone.frozen_gro Zone.size_gro Zone.lt_add Zone.drew_gro Zone.tape_gro Zone.keep_refl
attribute [local go_sem] Zone.lt_add2 Zone.lt_add3 Zone.lt_add4 Zone.lt_add5 Zone.lt_add6 Zone.lt_add7 Zone.lt_add8 Zone.lt_add9 Zone.lt_add10 Zone.lt_add11 Zone.lt_add12
def badN (d : Nat) (ce : Bool) (cmp : Int) (vl : Nat) (op : Int) (kl : Nat) : Bool := !ce || cmp != 0 || decide (0 < vl) || decide (4 < op) || (op == 0 && (decide (1 < d) || decide (0 < kl))) || (op == 3 && (kl : Int) != 1)
/-- A node that is no leaf, as it has to be. -/
structure NodeP (d : Nat) (n : Nd) : Prop where
  cmp : n.cmp = 0
  vals : n.vals.length = 0
  op : n.op ≤ 4
  all : n.op = 0 → d ≤ 1 ∧ n.kids.length = 0
  not : n.op = 3 → n.kids.length = 1
/-- A filter that may be asked. -/
inductive NodeWf (cols : List Col) : Nat → Nd → Prop where
  | leaf (d : Nat) (n : Nd) (hd : d ≤ 64) (ho : n.op = 4) (h : leafWf cols n) : NodeWf cols d n
  | node (d : Nat) (n : Nd) (hd : d ≤ 64) (ho : n.op ≠ 4) (h : NodeP d n) (hk : ∀ k ∈ n.kids, NodeWf cols (d + 1) k) : NodeWf cols d n
theorem badN_not {d : Nat} {n : Nd} {ce : Bool} (h : badN d ce n.cmp n.vals.length n.op n.kids.length = false) : NodeP d n := by
  simp [badN] at h
  obtain ⟨⟨⟨⟨⟨h1, h2⟩, h3⟩, h4⟩, h5⟩, h6⟩ := h
  exact ⟨h2, by rw [h3]; rfl, h4, fun h => ⟨(h5 h).1, by rw [(h5 h).2]; rfl⟩, fun h => by have := h6 h; omega⟩
theorem nodes_succ {cols : List Col} {kids : List Nd} {d m : Nat} {h : m < kids.length} (h1 : ∀ j, (h : j < kids.length) → j < m → NodeWf cols d kids[j]) (h2 : NodeWf cols d kids[m]) : ∀ j, (h : j < kids.length) → j < m + 1 → NodeWf cols d kids[j] := fun j hj hjm => by
  by_cases e : j = m
  · subst e; exact h2
  · exact h1 j hj (by omega)
section
variable {b c : Nat} {A : Option Addr} {cols : List Col}
set_option maxRecDepth 100000 in
set_option maxHeartbeats 8000000 in
theorem rnode_any (w0 : World) (n : Nd) (hn : Nd.In w0 b n) : ∀ (w : World) (fl : Nat → Bool) (depth : Nat), depth ≤ 100 → w0.grownBy w (some b) → Wg w b A c cols fl → Sl w 2 Col.cells A c cols →
    Calls Tryz.prog 64 #[.pointer (some ⟨b, 0, none⟩), n.v, .int .i64 depth] w fun r w' => r = .returned (.tuple #[]) ∧ Told w w' b A c cols fl (NodeWf cols depth n) := by
  induction hn with
  | mk n hk hv hA hB hi ih =>
  intro w fl depth hd hg h hc
  have hn : Nd.In w b n := (Nd.In.mk n hk hv hA hB hi).by_ hg
  have H := Lib.hid h
  have HC := Lib.hid hc
  have HN := Lib.hid hn
  have hb := h.lt
  have hkl := hn.kids_.len
  have hvl := hn.vals_.len
  have IH := Lib.hid ih
  have HG0 := Lib.hid hg
  clear h hc hn hk hv hA hB hi ih hg
  obtain ⟨op, KA, kc, kids, col, cmp, VB, vd, vals⟩ := n
  simp only [Nd.v] at hkl hvl IH ⊢
  by_cases h64 : 64 < depth
  · have fx := H.out.ff 11 (by decide)
    have cx := H.out.cf 11 (by decide)
    go_enter Tryz.func64, Tryz.ntmps64
    go_wp2
    exact bodyPost_ret (v := .tuple #[]) (by simp [results, Tryz.results64, go_sem]) rfl ⟨rfl, ((Told.refl (P := True) H.out trivial).setAfter 11 (by decide) (by decide)).after (by repeat (first | exact Keep.refl _ | apply Keep.alloc | apply Keep.gro | apply Keep.drew | apply Keep.drewN))⟩
  · by_cases h4 : op = 4
    · subst h4
      go_enter Tryz.func64, Tryz.ntmps64
      go_wp2_with (go_at_call 87; refine Zone.hold ?_)
      refine Zone.unhold ?_
      refine (rleaf_any ⟨4, KA, kc, kids, col, cmp, VB, vd, vals⟩ _ (H.out.keep (by repeat (first | exact Keep.refl _ | apply Keep.alloc | apply Keep.gro | apply Keep.drew | apply Keep.drewN))) (HC.out.keep (by repeat (first | exact Keep.refl _ | apply Keep.alloc | apply Keep.gro | apply Keep.drew | apply Keep.drewN))) (HN.out.keep (by repeat (first | exact Keep.refl _ | apply Keep.alloc | apply Keep.gro | apply Keep.drew | apply Keep.drewN)))).mono ?_
      rintro e' w1 ⟨rfl, HT1⟩
      have HT2 := Lib.hid (Told.from (show Keep w _ from (by repeat (first | exact Keep.refl _ | apply Keep.alloc | apply Keep.gro | apply Keep.drew | apply Keep.drewN))) HT1)
      clear HT1
      go_wp2
      exact bodyPost_ret (v := .tuple #[]) (by simp [results, Tryz.results64, go_sem]) rfl ⟨rfl, HT2.out.imp fun h => .leaf _ _ (by omega) rfl h⟩
    · have h4' : (op == 4) = false := by simp [h4]
      obtain ⟨w1, hw1⟩ : ∃ w1, w1 = w.alloc (.cells #[.int .u8 op, .slice KA kids.length kc, .string col, .int .u8 cmp, .slice VB vals.length vd] 27) := ⟨_, rfl⟩
      have HW1 := Lib.hid hw1
      clear hw1
      go_enter Tryz.func64, Tryz.ntmps64
      go_upto_region 5 with fail
      go_cut [63] from 19 to 63 (fun s63 wx => ∃ bb, s63 = .bool bb ∧ Hid (wx = w1) ∧ Hid (bb = badN depth col.toList.isEmpty cmp vals.length op kids.length))
      case first =>
        cases h1 : col.toList.isEmpty
        · (go_wp2_with fail
           go_meet
           exact ⟨_, rfl, HW1.out.symm, by show _ = _; simp [badN, *]⟩)
        · cases h2 : (cmp != 0)
          · cases h3 : decide (0 < vals.length)
            · cases h5 : decide (4 < op)
              · cases h6 : (op == 0)
                · cases h7 : (op == 3)
                  · (go_wp2_with fail
                     go_meet
                     exact ⟨_, rfl, HW1.out.symm, by show _ = _; simp [badN, *]⟩)
                  · cases h9 : ((kids.length : Int) != 1)
                    · (go_wp2_with fail
                       go_meet
                       exact ⟨_, rfl, HW1.out.symm, by show _ = _; simp [badN, *]⟩)
                    · (go_wp2_with fail
                       go_meet
                       exact ⟨_, rfl, HW1.out.symm, by show _ = _; simp [badN, *]⟩)
                · have h7 : (op == 3) = false := by simp at h6; subst h6; rfl
                  by_cases h8 : 1 < depth
                  · (go_wp2_with fail
                     go_meet
                     exact ⟨_, rfl, HW1.out.symm, by show _ = _; simp [badN, *]⟩)
                  · cases h9 : decide (0 < kids.length)
                    · (go_wp2_with fail
                       go_meet
                       exact ⟨_, rfl, HW1.out.symm, by show _ = _; simp [badN, *]⟩)
                    · (go_wp2_with fail
                       go_meet
                       exact ⟨_, rfl, HW1.out.symm, by show _ = _; simp [badN, *]⟩)
              · (go_wp2_with fail
                 go_meet
                 exact ⟨_, rfl, HW1.out.symm, by show _ = _; simp [badN, *]⟩)
            · (go_wp2_with fail
               go_meet
               exact ⟨_, rfl, HW1.out.symm, by show _ = _; simp [badN, *]⟩)
          · (go_wp2_with fail
             go_meet
             exact ⟨_, rfl, HW1.out.symm, by show _ = _; simp [badN, *]⟩)
      case rest =>
        obtain ⟨bb, rfl, HE, HB⟩ := hcut
        rename World => wb
        have HKW := Lib.hid (show Keep w wb by rw [HE.out, HW1.out]; exact (by repeat (first | exact Keep.refl _ | apply Keep.alloc | apply Keep.gro | apply Keep.drew | apply Keep.drewN)))
        have HXB := Lib.hid (show At wb w.heap.size [.int .u8 op, .slice KA kids.length kc, .string col, .int .u8 cmp, .slice VB vals.length vd] by rw [HE.out, HW1.out]; exact at_alloc _ [_, _, _, _, _] _)
        have hz0 : w.heap.size < wb.heap.size := by rw [HE.out, HW1.out]; simp
        have HT := Lib.hid (show Told wb wb b A c cols fl True from Told.refl (H.out.keep HKW.out) trivial)
        clear HE HW1 H
        go_upto_if 63 with fail
        go_cut [] from 64 to 67 (fun wx => Hid (Told wb wx b A c cols fl (NodeP depth ⟨op, KA, kc, kids, col, cmp, VB, vd, vals⟩)))
        case first =>
          cases bb
          · go_wp2_with fail
            go_meet
            exact HT.out.imp fun _ => badN_not (n := ⟨op, KA, kc, kids, col, cmp, VB, vd, vals⟩) (ce := col.toList.isEmpty) HB.out.symm
          · obtain ⟨flx, hwx⟩ := HT.out.wg
            have fx := hwx.ff 5 (by decide)
            have cx := hwx.cf 5 (by decide)
            have bx := hwx.lt
            clear hwx
            go_wp2_with fail
            go_meet
            exact HT.out.setAfter 5 (by decide) (by decide)
        case rest =>
          have HT2 := Lib.hid hcut.out
          rename World => w2
          clear hcut HT HB
          have hdw : IntKind.i64.wrap ((depth : Int) + 1) = ((depth + 1 : Nat) : Int) := by rw [IntWalk.i64_in _ ⟨by omega, by omega⟩]; omega
          have HKS := Lib.hid (HN.out.keep HKW.out)
          have HG5 := Lib.hid (By.trans HG0.out (By.keep (r := some b) HKW.out))
          have HCB := Lib.hid (HC.out.keep HKW.out)
          clear HN HC HG0
          go_wp2
          go_loopw [6] (fun i wr => ∃ m : Nat, m ≤ kids.length ∧ i = .int .i64 m ∧ Hid (Told wb wr b A c cols fl (NodeP depth ⟨op, KA, kc, kids, col, cmp, VB, vd, vals⟩ ∧ ∀ j, (h : j < kids.length) → j < m → NodeWf cols (depth + 1) kids[j]))) (fun i _ => kids.length - (intOf i).toNat)
          case atStart => exact ⟨0, Nat.zero_le _, rfl, HT2.out.imp fun h => ⟨h, fun j _ hj => absurd hj (Nat.not_lt_zero _)⟩⟩
          case round =>
            obtain ⟨m, hm, rfl, HTr⟩ := hrel
            have hX := At.by_ (HTr.out.by_) HXB.out (by intro h; have := Option.some.inj h; omega)
            have x1 := hX 1 _ rfl
            have hwr := World.block_lt_of_cell? _ _ x1
            simp only at hwr
            clear hX
            by_cases hlt : m < kids.length
            · have hS2 := By.sl HTr.out.by_ HKS.out.kids_ (fun g off hg hp he => HKS.out.neA g off hg hp (Option.some.inj he))
              simp only at hS2
              obtain ⟨g, off, hA, hg, k0, k1, k2, k3, k4⟩ := sl_nd hS2 m hlt
              subst hA
              have HI := Lib.hid (IH.out kids[m] (List.getElem_mem hlt))
              obtain ⟨fl1, hwg, hm1, hq1, hg1⟩ := HTr.out
              have HM1 := Lib.hid hm1
              have HQ1 := Lib.hid hq1
              have HG1 := Lib.hid hg1
              have HWG := Lib.hid hwg
              have HSC := Lib.hid (hwg.cols_ HTr.out.by_ HCB.out)
              clear hS2 hwg hm1 hq1 hg1
              go_wp2_with (go_at_call 64; refine Zone.hold ?_)
              refine Zone.unhold ?_
              rw [show (depth : Int) + 1 = ((depth + 1 : Nat) : Int) by omega]
              refine (HI.out _ fl1 (depth + 1) (by omega) (By.trans HG5.out HG1.out) HWG.out HSC.out).mono ?_
              rintro e' w5 ⟨rfl, HT5⟩
              have HT6 := Lib.hid (Told.glue HM1.out HQ1.out HG1.out HT5)
              clear HT5 HM1 HQ1 HG1 HWG HSC HTr
              go_wp2
              go_roundw
              case rel => exact ⟨m + 1, by omega, by go_num, HT6.out.imp fun h => ⟨h.1.1, nodes_succ h.1.2 h.2⟩⟩
              case measure => simp [intOf]; omega
            · have : m = kids.length := by omega
              subst this
              have HTF := Lib.hid (Told.from HKW.out HTr.out)
              clear HTr
              go_wp2
              exact bodyPost_end (v := .tuple #[]) (by simp [results, Tryz.results64, go_sem]) rfl ⟨rfl, HTF.out.imp fun h => .node _ _ (by omega) h4 h.1 fun k hk => by obtain ⟨j, hj, e⟩ := List.getElem_of_mem hk; rw [← e]; exact h.2 j hj hj⟩
end
end Go.Proofs.YthigflnfccajoaaGreat
/- What the document says of a question that holds a filter and a count: its outputs, its test. -/
namespace Go.Proofs.YthigflnfccajoaaGreat
open Go.RowKit Go.Zone Go.Shelf
attribute [local go_sem] Zone.zone Zone.stepZ Zone.fill Zone.lookFs Zone.goes Zone.goesUpon Zone.dropFs Zone.cell_gro Zone.frozen_gro Zone.size_gro Zone.lt_add Zone.drew_gro Zone.tape_gro Zone.keep_refl
attribute [local go_sem] Zone.lt_add2 Zone.lt_add3 Zone.lt_add4 Zone.lt_add5 Zone.lt_add6 Zone.lt_add7 Zone.lt_add8 Zone.lt_add9 Zone.lt_add10 Zone.lt_add11 Zone.lt_add12
section
variable {b c : Nat} {A : Option Addr} {cols : List Col} {fl : Nat → Bool}
set_option maxRecDepth 100000 in
set_option maxHeartbeats 4000000 in
theorem routs_any (n : Nd) (g gc : Nat) (w : World) (h : Wg w b A c cols fl) (hc : Sl w 2 Col.cells A c cols) (hg0 : w.cell? ⟨g, 0, none⟩ = some (.int .u8 1)) (hg1 : w.cell? ⟨g, 1, none⟩ = some (.string ⟨#[]⟩)) (hgc : 1 ≤ gc) (hgc2 : gc ≤ 1000000) (hkl : n.kids.length ≤ 140737488355328) (hvl : n.vals.length ≤ 140737488355328) :
    Calls Tryz.prog 63 #[.pointer (some ⟨b, 0, none⟩), qv n (some ⟨g, 0, none⟩) gc] w fun r w' => r = .returned (.tuple #[]) ∧ Keep w w' := by
  have H := Lib.hid h
  have HC := Lib.hid hc
  have hb := h.lt
  have hgw := World.block_lt_of_cell? _ _ hg0
  have c0 := h.c0
  have HCOL := Lib.hid (fun W (hS : Sl W 2 Col.cells A c cols) => rcol_any A c cols ⟨#[]⟩ W hS)
  obtain ⟨cc, hcc⟩ : ∃ cc, idxP (isCol ⟨#[]⟩) cols 0 = cc := ⟨_, rfl⟩
  rw [hcc] at HCOL
  simp only at hgw
  obtain ⟨op, KA, kc, kids, col, cmp, VB, vd, vals⟩ := n
  simp only [qv] at hkl hvl ⊢
  clear h hc hcc
  go_enter Tryz.func63, Tryz.ntmps63
  go_wp2
  go_loopw [4] (fun i wr => i = .int .i64 0 ∧ Hid (Keep w wr) ∧ wr.cell? ⟨w.heap.size, 5, none⟩ = some (.slice none 0 0) ∧ wr.cell? ⟨w.heap.size, 6, none⟩ = some (.slice (some ⟨g, 0, none⟩) 1 gc)) (fun i _ => 0 - (intOf i).toNat)
  case atStart => exact ⟨rfl, (by repeat (first | exact Keep.refl _ | apply Keep.alloc | apply Keep.gro | apply Keep.drew | apply Keep.drewN)), by simp [go_sem], by simp [go_sem]⟩
  case round =>
    obtain ⟨rfl, HK, x5, x6⟩ := hrel
    have hw0 := World.block_lt_of_cell? _ _ x5
    simp only at hw0
    go_wp2
    go_loopw [7, 8, 9] (fun i _ _ wr2 => ∃ m : Nat, m ≤ 1 ∧ i = .int .i64 m ∧ Hid (Keep w wr2) ∧ wr2.cell? ⟨w.heap.size, 6, none⟩ = some (.slice (some ⟨g, 0, none⟩) 1 gc)) (fun i _ _ _ => 1 - (intOf i).toNat)
    case atStart => exact ⟨0, by omega, rfl, HK.out, x6⟩
    case round =>
      clear HK x5 x6 hw0
      obtain ⟨m, hm, rfl, HK, x6⟩ := hrel
      have hw0 := World.block_lt_of_cell? _ _ x6
      simp only at hw0
      by_cases hlt : m < 1
      · have hm0 : m = 0 := by omega
        subst hm0
        have y0 := (HK.out.cell (p := ⟨g, 0, none⟩) hgw).trans hg0
        have y1 := (HK.out.cell (p := ⟨g, 1, none⟩) hgw).trans hg1
        have yb := (HK.out.cell (p := ⟨b, 0, none⟩) hb).trans c0
        have hgr := World.block_lt_of_cell? _ _ y0
        have hbr := World.block_lt_of_cell? _ _ yb
        simp only at hgr hbr
        have HC2 := Lib.hid (HC.out.keep HK.out)
        clear hg0 hg1 c0
        go_wp2
        first | refine Zone.wp_region_all_gro (by kernel_rfl) (by kernel_rfl) ?_ | refine Zone.wp_region_all (by kernel_rfl) (by kernel_rfl) ?_
        repeat
          refine Zone.wpZ_step (fun K hK => ?_)
          go_simp
          first
          | (refine hK _ _ ?_; clear hK K)
          | (apply Exists.intro
             refine ⟨fun p => ?_, hK _ _ ?_⟩
             ((go_at_call 49; exact Zone.zc (HCOL.out _ (HC2.out.keep (by repeat (first | exact Keep.refl _ | apply Keep.alloc | apply Keep.gro | apply Keep.drew | apply Keep.drewN | (refine Keep.setCell ?_ (by simp) _)))))))
             clear hK K)
        refine Zone.wpZ_nil ?_
        intro p
        simp only [Zone.fill]
        go_wp2
        go_roundw
        case rel => exact ⟨1, by omega, by go_num, HK.out.trans (by repeat (first | exact Keep.refl _ | apply Keep.alloc | apply Keep.gro | apply Keep.drew | apply Keep.drewN | (refine Keep.setCell ?_ (by simp) _))), by simp [go_sem, hw0, x6]⟩
        case measure => simp [intOf]
      · have hm0 : m = 1 := by omega
        subst hm0
        go_wp2
        exact bodyPost_end (v := .tuple #[]) (by simp [results, Tryz.results63, go_sem]) rfl ⟨rfl, HK.out⟩
set_option maxRecDepth 100000 in
set_option maxHeartbeats 4000000 in
theorem rkinds_any (n : Nd) (A : Option Addr) (c gc cl : Nat) (gA : Option Addr) (w : World) (hkl : n.kids.length ≤ 140737488355328) (hvl : n.vals.length ≤ 140737488355328) :
    Calls Tryz.prog 65 #[.slice A cl c, qv n gA gc] w fun r w' => ∃ v, r = .returned v ∧ OwnK w' w.heap.size v [1] ∧ Keep w w' := by
  obtain ⟨op, KA, kc, kids, col, cmp, VB, vd, vals⟩ := n
  simp only [qv] at hkl hvl ⊢
  go_enter Tryz.func65, Tryz.ntmps65
  go_wp2
  go_loopw [5, 6, 7] (fun v i _ wr => i = .int .i64 0 ∧ v = .slice none 0 0 ∧ Hid (Keep w wr) ∧ wr.cell? ⟨w.heap.size, 5, none⟩ = some (.slice none 0 0) ∧ wr.cell? ⟨w.heap.size, 6, none⟩ = some (.slice gA 1 gc)) (fun _ i _ _ => 0 - (intOf i).toNat)
  case atStart => exact ⟨rfl, rfl, (by repeat (first | exact Keep.refl _ | apply Keep.alloc | apply Keep.gro | apply Keep.drew | apply Keep.drewN)), by simp [go_sem], by simp [go_sem]⟩
  case round =>
    obtain ⟨rfl, rfl, HK, x5, x6⟩ := hrel
    have hw0 := World.block_lt_of_cell? _ _ x5
    simp only at hw0
    have hw9 : w.heap.size < wr.heap.size := hw0
    go_wp2
    go_loopw [5, 8] (fun v i wr2 => ∃ m : Nat, m ≤ 1 ∧ i = .int .i64 m ∧ Hid (OwnK wr2 (w.heap.size + 1) v (List.replicate m 1)) ∧ Hid (Keep w wr2) ∧ wr2.cell? ⟨w.heap.size, 6, none⟩ = some (.slice gA 1 gc)) (fun _ i _ => 1 - (intOf i).toNat)
    case atStart => exact ⟨0, by omega, rfl, Own.nil_ _ _ _ _ _, HK.out, x6⟩
    case round =>
      clear HK x5 x6 hw0 hw9
      rename World => wq
      obtain ⟨m, hm, rfl, HO, HK, x6⟩ := hrel
      have hw0 := World.block_lt_of_cell? _ _ x6
      simp only at hw0
      by_cases hlt : m < 1
      · have hm0 : m = 0 := by omega
        subst hm0
        go_wp2_with (at_builtin; refine Zone.hold ?_)
        refine Zone.unhold ?_
        have HO1 : OwnK (wq.alloc (.cells #[.int .u8 1] 5)) (w.heap.size + 1) u5 [] := HO.out.keep (by repeat (first | exact Keep.refl _ | apply Keep.alloc | apply Keep.gro | apply Keep.drew | apply Keep.drewN))
        refine wpList_app elt_k k_len k_one rfl (.tmp 43) (.tmp 44) rfl (ys := [1]) HO1 rfl rfl (Zone.sl_one _ (by omega) (by omega) (k_at _ (by simp [go_sem]))) (by simp) (by simp; omega) ?_
        intro v1 w5 hown2 hg2 _
        have ⟨a1, a2, a3⟩ := HO1.after (w := w) hg2 (HK.out.trans (by repeat (first | exact Keep.refl _ | apply Keep.alloc | apply Keep.gro | apply Keep.drew | apply Keep.drewN))) (by omega)
        have hx7 := a3 ⟨w.heap.size, 6, none⟩ (.slice gA 1 gc) (Nat.lt_succ_self _) (by simp [go_sem, x6, hw0])
        have HO4 := Lib.hid hown2
        have HA1 := Lib.hid a1
        clear hown2 hg2 HO1 a3
        go_wp2
        go_roundw
        case rel => exact ⟨1, by omega, by go_num, HO4.out, HA1.out, hx7⟩
        case measure => simp [intOf]
      · have hm0 : m = 1 := by omega
        subst hm0
        go_wp2
        go_ret
        exact ⟨_, rfl, Own.base_mono HO.out (by omega), HK.out⟩
set_option maxRecDepth 100000 in
set_option maxHeartbeats 4000000 in
theorem rtest_any (v : Value) (w : World) :
    Calls Tryz.prog 66 #[.pointer (some ⟨b, 0, none⟩), .agg #[.int .u8 0, .slice none 0 0, .int .i64 0, .int .u8 0, .int .u8 0, .int .i64 0, .string ⟨#[]⟩], .int .i64 1, v] w fun r w' => r = .returned (.tuple #[]) ∧ Keep w w' := by
  go_enter Tryz.func66, Tryz.ntmps66
  go_wp2
  go_loopw [8] (fun i wr => i = .int .i64 0 ∧ Hid (Keep w wr) ∧ wr.cell? ⟨w.heap.size, 1, none⟩ = some (.slice none 0 0)) (fun i _ => 0 - (intOf i).toNat)
  case atStart => exact ⟨rfl, (by repeat (first | exact Keep.refl _ | apply Keep.alloc | apply Keep.gro | apply Keep.drew | apply Keep.drewN)), by simp [go_sem]⟩
  case round =>
    obtain ⟨rfl, HK, x1⟩ := hrel
    have hw0 := World.block_lt_of_cell? _ _ x1
    simp only at hw0
    go_wp2
    exact bodyPost_end (v := .tuple #[]) (by simp [results, Tryz.results66, go_sem]) rfl ⟨rfl, HK.out⟩
end
end Go.Proofs.YthigflnfccajoaaGreat
/- The document's Validate of a question that holds a filter and a count; law 25's columns; whether a filter may be asked. -/
namespace Go.Proofs.YthigflnfccajoaaGreat
open Go.RowKit Go.Zone Go.Shelf
attribute [local go_sem] Zone.zone Zone.stepZ Zone.fill Zone.lookFs Zone.goes Zone.goesUpon Zone.dropFs Zone.cell_gro Zone.frozen_gro Zone.size_gro Zone.lt_add Zone.drew_gro Zone.tape_gro Zone.keep_refl
attribute [local go_sem] Zone.lt_add2 Zone.lt_add3 Zone.lt_add4 Zone.lt_add5 Zone.lt_add6 Zone.lt_add7 Zone.lt_add8 Zone.lt_add9 Zone.lt_add10 Zone.lt_add11 Zone.lt_add12
def colsC : List Col := [⟨⟨#[97]⟩, 1⟩, ⟨⟨#[98]⟩, 2⟩, ⟨⟨#[99]⟩, 1⟩, ⟨⟨#[109]⟩, 3⟩]
theorem cols25_any (w : World) : Calls Tryz.prog 22 #[] w fun e w' => e = .returned (.slice (some ⟨w.heap.size, 0, none⟩) 4 4) ∧ Sl w' 2 Col.cells (some ⟨w.heap.size, 0, none⟩) 4 colsC ∧ Keep w w' := by
  go_enter Tryz.func22, Tryz.ntmps22
  go_wp2
  go_ret
  exact ⟨rfl, sl_blk (xs := colsC) (fun _ => rfl) (at_alloc _ [_, _, _, _, _, _, _, _] _) (by decide), (by repeat (first | exact Keep.refl _ | apply Keep.alloc | apply Keep.gro | apply Keep.drew | apply Keep.drewN))⟩
set_option maxRecDepth 100000 in
set_option maxHeartbeats 4000000 in
theorem rvalid_any (n : Nd) (A : Option Addr) (c : Nat) (cols : List Col) (g gc : Nat) (w : World) (hc : Sl w 2 Col.cells A c cols) (hn : Nd.In w w.heap.size n) (hg0 : w.cell? ⟨g, 0, none⟩ = some (.int .u8 1)) (hg1 : w.cell? ⟨g, 1, none⟩ = some (.string ⟨#[]⟩)) (hgc : 1 ≤ gc) (hgc2 : gc ≤ 1000000) :
    Calls Tryz.prog 27 #[.slice A cols.length c, qv n (some ⟨g, 0, none⟩) gc] w fun e w' => ∃ r : Int, e = .returned (.int .i64 r) ∧ (r = 0 → NodeWf cols 1 n) ∧ Keep w w' := by
  have HC := Lib.hid hc
  have HN := Lib.hid hn
  have hkl := hn.kids_.len
  have hvl := hn.vals_.len
  have HG0 := Lib.hid hg0
  have HG1 := Lib.hid hg1
  clear hc hn hg0 hg1
  have HN' := HN
  obtain ⟨op, KA, kc, kids, col, cmp, VB, vd, vals⟩ := n
  simp only [qv] at hkl hvl ⊢
  go_enter Tryz.func27, Tryz.ntmps27
  go_wp2
  go_region
  have HNA := Lib.hid (sl_ne (HC.out) (fun _ => by simp [Col.cells]) (Nat.le_succ w.heap.size))
  generalize hw2 : World.drew _ = w2
  have hA2 : At w2 w.heap.size [.int .u8 op, .slice KA kids.length kc, .string col, .int .u8 cmp, .slice VB vals.length vd, .slice none 0 0, .slice (some ⟨g, 0, none⟩) 1 gc, .int .u8 0, .slice none 0 0, .int .i64 0, .int .u8 0, .int .u8 0, .int .i64 0, .string ⟨#[]⟩, .slice none 0 0, .int .i64 0] := by
    subst hw2
    exact (at_alloc w [_, _, _, _, _, _, _, _, _, _, _, _, _, _, _, _] _).keep' (by repeat (first | exact Keep.refl _ | apply Keep.alloc | apply Keep.gro | apply Keep.drew | apply Keep.drewN))
  have hK2 : Keep w w2 := by subst hw2; exact (by repeat (first | exact Keep.refl _ | apply Keep.alloc | apply Keep.gro | apply Keep.drew | apply Keep.drewN))
  have hWG : Wg w2 (w.heap.size + 1) A c cols (fun _ => false) := by
    subst hw2
    have h1 : At _ _ _ := (at_alloc (w.alloc (.cells #[.int .u8 op, .slice KA kids.length kc, .string col, .int .u8 cmp, .slice VB vals.length vd, .slice none 0 0, .slice (some ⟨g, 0, none⟩) 1 gc, .int .u8 0, .slice none 0 0, .int .i64 0, .int .u8 0, .int .u8 0, .int .i64 0, .string ⟨#[]⟩, .slice none 0 0, .int .i64 0] 56)) (.slice A cols.length c :: List.replicate 20 (.bool false)) 116).keep' (Keep.drew (Keep.refl _))
    simp only [World.size_alloc] at h1
    refine ⟨h1 0 _ rfl, fun i hi => h1 (i + 1) _ (by rw [List.getElem?_cons_succ, List.getElem?_replicate, if_pos hi]), fun i hi => ?_, HNA.out⟩
    simp [go_sem]
  have hz2 : w.heap.size + 1 < w2.heap.size := by subst hw2; simp [go_sem]
  have HA2 := Lib.hid hA2
  have HK2 := Lib.hid hK2
  have HWG := Lib.hid hWG
  clear hw2 hA2 hK2 hWG HNA
  have x0 := HA2.out 0 _ rfl
  have x1 := HA2.out 1 _ rfl
  have x2 := HA2.out 2 _ rfl
  have x3 := HA2.out 3 _ rfl
  have x4 := HA2.out 4 _ rfl
  have x5 := HA2.out 5 _ rfl
  have x6 := HA2.out 6 _ rfl
  have x7 := HA2.out 7 _ rfl
  have x8 := HA2.out 8 _ rfl
  have x9 := HA2.out 9 _ rfl
  have x10 := HA2.out 10 _ rfl
  have x11 := HA2.out 11 _ rfl
  have x12 := HA2.out 12 _ rfl
  have x13 := HA2.out 13 _ rfl
  have x14 := HA2.out 14 _ rfl
  have x15 := HA2.out 15 _ rfl
  go_wp2_with (go_at_call 63; refine Zone.hold ?_)
  refine Zone.unhold ?_
  clear x0 x1 x2 x3 x4 x5 x6 x7 x8 x9 x10 x11 x12 x13 x14 x15
  have hg0 := (HK2.out.cell (p := ⟨g, 0, none⟩) (World.block_lt_of_cell? _ _ HG0.out)).trans HG0.out
  have hg1 := (HK2.out.cell (p := ⟨g, 1, none⟩) (World.block_lt_of_cell? _ _ HG1.out)).trans HG1.out
  refine (routs_any ⟨op, KA, kc, kids, col, cmp, VB, vd, vals⟩ g gc _ HWG.out (HC.out.keep HK2.out) hg0 hg1 hgc hgc2 hkl hvl).mono ?_
  rintro e w3 ⟨rfl, hk3⟩
  have HA3 := Lib.hid (HA2.out.keep' hk3)
  have HK3 := Lib.hid (HK2.out.trans hk3)
  have HWG3 := Lib.hid (HWG.out.keep hk3)
  have hz3 : w.heap.size + 1 < w3.heap.size := by have := hk3.size; omega
  clear hk3 hg0 hg1 HA2 HWG hz2 HK2
  have x0 := HA3.out 0 _ rfl
  have x1 := HA3.out 1 _ rfl
  have x2 := HA3.out 2 _ rfl
  have x3 := HA3.out 3 _ rfl
  have x4 := HA3.out 4 _ rfl
  have x5 := HA3.out 5 _ rfl
  have x6 := HA3.out 6 _ rfl
  have x7 := HA3.out 7 _ rfl
  have x8 := HA3.out 8 _ rfl
  have x9 := HA3.out 9 _ rfl
  have x10 := HA3.out 10 _ rfl
  have x11 := HA3.out 11 _ rfl
  have x12 := HA3.out 12 _ rfl
  have x13 := HA3.out 13 _ rfl
  have x14 := HA3.out 14 _ rfl
  have x15 := HA3.out 15 _ rfl
  go_wp2_with (go_at_call 64; refine Zone.hold ?_)
  refine Zone.unhold ?_
  clear x0 x1 x2 x3 x4 x5 x6 x7 x8 x9 x10 x11 x12 x13 x14 x15
  have HN3 := (HN.out.fresh (Nat.le_succ w.heap.size)).keep HK3.out
  refine (rnode_any w3 ⟨op, KA, kc, kids, col, cmp, VB, vd, vals⟩ HN3 w3 _ 1 (by omega) (World.grownBy.refl _ _) HWG3.out (HC.out.keep HK3.out)).mono ?_
  rintro e w4 ⟨rfl, fl4, hw4, _, hq4, hg4⟩
  have HA4 := Lib.hid (At.by_ hg4 HA3.out (by intro h; have := Option.some.inj h; omega))
  have HK4 := Lib.hid (HK3.out.grown hg4 (fun k e => by injection e with e; omega))
  have HWG4 := Lib.hid hw4
  have HQ4 := Lib.hid hq4
  have hz4 : w.heap.size + 1 < w4.heap.size := by have := hg4.size; omega
  clear hg4 hw4 hq4 HA3 HWG3 HK3 hz3 HN3
  have x0 := HA4.out 0 _ rfl
  have x1 := HA4.out 1 _ rfl
  have x2 := HA4.out 2 _ rfl
  have x3 := HA4.out 3 _ rfl
  have x4 := HA4.out 4 _ rfl
  have x5 := HA4.out 5 _ rfl
  have x6 := HA4.out 6 _ rfl
  have x7 := HA4.out 7 _ rfl
  have x8 := HA4.out 8 _ rfl
  have x9 := HA4.out 9 _ rfl
  have x10 := HA4.out 10 _ rfl
  have x11 := HA4.out 11 _ rfl
  have x12 := HA4.out 12 _ rfl
  have x13 := HA4.out 13 _ rfl
  have x14 := HA4.out 14 _ rfl
  have x15 := HA4.out 15 _ rfl
  go_wp2_with (go_at_call 65; refine Zone.hold ?_)
  refine Zone.unhold ?_
  clear x0 x1 x2 x3 x4 x5 x6 x7 x8 x9 x10 x11 x12 x13 x14 x15
  refine (rkinds_any ⟨op, KA, kc, kids, col, cmp, VB, vd, vals⟩ A c gc cols.length (some ⟨g, 0, none⟩) w4 hkl hvl).mono ?_
  rintro e w5 ⟨v5, rfl, hown5, hk5⟩
  obtain ⟨B, d, rfl, _⟩ := hown5.sl k_len (by simp)
  have HA5 := Lib.hid (HA4.out.keep' hk5)
  have HK5 := Lib.hid (HK4.out.trans hk5)
  have HWG5 := Lib.hid (HWG4.out.keep hk5)
  have hz5 : w.heap.size + 1 < w5.heap.size := by have := hk5.size; omega
  clear hk5 hown5 HA4 HWG4 hz4 HK4
  have x0 := HA5.out 0 _ rfl
  have x1 := HA5.out 1 _ rfl
  have x2 := HA5.out 2 _ rfl
  have x3 := HA5.out 3 _ rfl
  have x4 := HA5.out 4 _ rfl
  have x5 := HA5.out 5 _ rfl
  have x6 := HA5.out 6 _ rfl
  have x7 := HA5.out 7 _ rfl
  have x8 := HA5.out 8 _ rfl
  have x9 := HA5.out 9 _ rfl
  have x10 := HA5.out 10 _ rfl
  have x11 := HA5.out 11 _ rfl
  have x12 := HA5.out 12 _ rfl
  have x13 := HA5.out 13 _ rfl
  have x14 := HA5.out 14 _ rfl
  have x15 := HA5.out 15 _ rfl
  go_wp2_with (go_at_call 66; refine Zone.hold ?_)
  refine Zone.unhold ?_
  clear x0 x1 x2 x3 x4 x5 x6 x7 x8 x9 x10 x11 x12 x13 x14 x15
  refine (rtest_any _ w5).mono ?_
  rintro e w6 ⟨rfl, hk6⟩
  have HA6 := Lib.hid (HA5.out.keep' hk6)
  have HK6 := Lib.hid (HK5.out.trans hk6)
  have HWG6 := Lib.hid (HWG5.out.keep hk6)
  have hz6 : w.heap.size + 1 < w6.heap.size := by have := hk6.size; omega
  clear hk6 HA5 HWG5 hz5 HK5
  have x0 := HA6.out 0 _ rfl
  have x1 := HA6.out 1 _ rfl
  have x2 := HA6.out 2 _ rfl
  have x3 := HA6.out 3 _ rfl
  have x4 := HA6.out 4 _ rfl
  have x5 := HA6.out 5 _ rfl
  have x6 := HA6.out 6 _ rfl
  have x7 := HA6.out 7 _ rfl
  have x8 := HA6.out 8 _ rfl
  have x9 := HA6.out 9 _ rfl
  have x10 := HA6.out 10 _ rfl
  have x11 := HA6.out 11 _ rfl
  have x12 := HA6.out 12 _ rfl
  have x13 := HA6.out 13 _ rfl
  have x14 := HA6.out 14 _ rfl
  have x15 := HA6.out 15 _ rfl
  go_wp2
  go_loop [7] (fun i => i = .int .i64 0) (fun i => 0 - (intOf i).toNat)
  case atStart => rfl
  case round =>
    subst hrel
    go_wp2
    clear x0 x1 x2 x3 x4 x5 x6 x7 x8 x9 x10 x11 x12 x13 x14 x15
    have HB := Lib.hid (show ∀ k, k < 20 → w6.cell? ⟨w.heap.size + 1, 1 + k, none⟩ = some (.bool (fl4 k)) from fun k hk => by have := HWG6.out.cf k hk; rw [Nat.add_comm k 1] at this; exact this)
    go_loop [8] (fun i => ∃ k : Nat, 1 ≤ k ∧ k ≤ 20 ∧ i = .int .i64 k ∧ Hid (∀ j, 1 ≤ j → j < k → fl4 j = false)) (fun i => 20 - (intOf i).toNat)
    case atStart => exact ⟨1, by omega, by omega, rfl, fun j h1 h2 => absurd h2 (by omega)⟩
    case round =>
      obtain ⟨k, hk1, hk, rfl, HQ⟩ := hrel
      by_cases hlt : k < 20
      · have hx := HB.out k hlt
        cases hfl : fl4 k
        · rw [hfl] at hx
          go_wp2
          go_round
          case rel => exact ⟨k + 1, by omega, by omega, by go_num, fun j h1 h2 => by
            by_cases e : j = k
            · subst e; exact hfl
            · exact HQ.out j h1 (by omega)⟩
          case measure => simp [intOf]; omega
        · rw [hfl] at hx
          go_wp2
          go_ret
          exact ⟨k, rfl, fun e => by omega, HK6.out⟩
      · have hk20 : k = 20 := by omega
        subst hk20
        go_wp2
        go_ret
        exact ⟨0, rfl, fun _ => HQ4.out fun i h1 h2 => HQ.out i h1 h2, HK6.out⟩
end Go.Proofs.YthigflnfccajoaaGreat
/- Whether a filter may be asked: law 25's may. -/
namespace Go.Proofs.YthigflnfccajoaaGreat
open Go.RowKit Go.Zone Go.Shelf
attribute [local go_sem] Zone.zone Zone.stepZ Zone.fill Zone.lookFs Zone.goes Zone.goesUpon Zone.dropFs Zone.cell_gro Zone.frozen_gro Zone.size_gro Zone.lt_add Zone.drew_gro Zone.tape_gro Zone.keep_refl
attribute [local go_sem] Zone.lt_add2 Zone.lt_add3 Zone.lt_add4 Zone.lt_add5 Zone.lt_add6 Zone.lt_add7 Zone.lt_add8 Zone.lt_add9 Zone.lt_add10 Zone.lt_add11 Zone.lt_add12
set_option maxRecDepth 100000 in
set_option maxHeartbeats 4000000 in
theorem may25_any (n : Nd) (w : World) (hn : Nd.In w w.heap.size n) (hsz : sizeF n ≤ 2000000000) :
    Calls Tryz.prog 7 #[n.v] w fun e w' => ∃ b, e = .returned (.bool b) ∧ (b = true → sizeF n ≤ 600 ∧ NodeWf colsC 1 n) ∧ Keep w w' := by
  have HGR := Lib.hid (fun g c W (hW : Keep w W) => great_any w w.heap.size n hn g c W hW hsz)
  have HN := Lib.hid hn
  have hkl := hn.kids_.len
  have hvl := hn.vals_.len
  clear hn
  obtain ⟨op, KA, kc, kids, col, cmp, VB, vd, vals⟩ := n
  obtain ⟨t, ht⟩ : ∃ t, sizeF ⟨op, KA, kc, kids, col, cmp, VB, vd, vals⟩ = t := ⟨_, rfl⟩
  rw [ht] at HGR hsz ⊢
  clear ht
  simp only [Nd.v, qv] at hkl hvl HGR ⊢
  go_enter Tryz.func7, Tryz.ntmps7
  go_wp2
  generalize hw1 : World.alloc _ _ = w1
  have hA1 : At w1 (w.heap.size + 1 + 1) [.int .u8 op, .slice KA kids.length kc, .string col, .int .u8 cmp, .slice VB vals.length vd, .slice none 0 0, .slice (some ⟨w.heap.size + 1, 0, none⟩) 1 1, .int .u8 0, .slice none 0 0, .int .i64 0, .int .u8 0, .int .u8 0, .int .i64 0, .string ⟨#[]⟩, .slice none 0 0, .int .i64 0] := by
    subst hw1
    have h1 := at_alloc ((w.alloc (.cells #[.int .u8 op, .slice KA kids.length kc, .string col, .int .u8 cmp, .slice VB vals.length vd] 27)).alloc (.cells #[.int .u8 1, .string ⟨#[]⟩] 76)) [.int .u8 op, .slice KA kids.length kc, .string col, .int .u8 cmp, .slice VB vals.length vd, .slice none 0 0, .slice (some ⟨w.heap.size + 1, 0, none⟩) 1 1, .int .u8 0, .slice none 0 0, .int .i64 0, .int .u8 0, .int .u8 0, .int .i64 0, .string ⟨#[]⟩, .slice none 0 0, .int .i64 0] 56
    simpa only [World.size_alloc] using h1
  have hg0 : w1.cell? ⟨w.heap.size + 1, 0, none⟩ = some (.int .u8 1) := by subst hw1; simp [go_sem]
  have hg1 : w1.cell? ⟨w.heap.size + 1, 1, none⟩ = some (.string ⟨#[]⟩) := by subst hw1; simp [go_sem]
  have hK1 : Keep w w1 := by subst hw1; exact (by repeat (first | exact Keep.refl _ | apply Keep.alloc | apply Keep.gro | apply Keep.drew | apply Keep.drewN))
  have hz1 : w.heap.size + 1 + 1 < w1.heap.size := by subst hw1; simp [go_sem]
  have HA1 := Lib.hid hA1
  have HG0 := Lib.hid hg0
  have HG1 := Lib.hid hg1
  have HK1 := Lib.hid hK1
  have HN1 := Lib.hid (HN.out.keep hK1)
  clear hw1 hA1 hg0 hg1 hK1
  generalize w.heap.size + 1 = g at HA1 HG0 HG1 HGR hz1 ⊢
  have x0 := HA1.out 0 _ rfl
  have x1 := HA1.out 1 _ rfl
  have x2 := HA1.out 2 _ rfl
  have x3 := HA1.out 3 _ rfl
  have x4 := HA1.out 4 _ rfl
  have x5 := HA1.out 5 _ rfl
  have x6 := HA1.out 6 _ rfl
  have x7 := HA1.out 7 _ rfl
  have x8 := HA1.out 8 _ rfl
  have x9 := HA1.out 9 _ rfl
  have x10 := HA1.out 10 _ rfl
  have x11 := HA1.out 11 _ rfl
  have x12 := HA1.out 12 _ rfl
  have x13 := HA1.out 13 _ rfl
  have x14 := HA1.out 14 _ rfl
  have x15 := HA1.out 15 _ rfl
  by_cases h6 : 600 < t
  · simp only [h6, decide_true] at HGR
    first | refine Zone.wp_region_all_gro (by kernel_rfl) (by kernel_rfl) ?_ | refine Zone.wp_region_all (by kernel_rfl) (by kernel_rfl) ?_
    repeat
      refine Zone.wpZ_step (fun K hK => ?_)
      go_simp
      first
      | (refine hK _ _ ?_; clear hK K)
      | (apply Exists.intro
         refine ⟨fun p => ?_, hK _ _ ?_⟩
         ((go_at_call 26; exact Zone.zc (HGR.out _ _ _ (HK1.out.trans (by repeat (first | exact Keep.refl _ | apply Keep.alloc | apply Keep.gro | apply Keep.drew | apply Keep.drewN))))))
         clear hK K)
    refine Zone.wpZ_nil ?_
    intro p
    simp only [Zone.fill]
    go_wp2
    go_ret
    exact ⟨false, rfl, by simp, HK1.out.trans (by repeat (first | exact Keep.refl _ | apply Keep.alloc | apply Keep.gro | apply Keep.drew | apply Keep.drewN))⟩
  · simp only [h6, decide_false] at HGR
    first | refine Zone.wp_region_all_gro (by kernel_rfl) (by kernel_rfl) ?_ | refine Zone.wp_region_all (by kernel_rfl) (by kernel_rfl) ?_
    repeat
      refine Zone.wpZ_step (fun K hK => ?_)
      go_simp
      first
      | (refine hK _ _ ?_; clear hK K)
      | (apply Exists.intro
         refine ⟨fun p => ?_, hK _ _ ?_⟩
         ((go_at_call 26; exact Zone.zc (HGR.out _ _ _ (HK1.out.trans (by repeat (first | exact Keep.refl _ | apply Keep.alloc | apply Keep.gro | apply Keep.drew | apply Keep.drewN))))))
         clear hK K)
    refine Zone.wpZ_free 12 (fun u W => ∃ g, u = .slice (some ⟨g, 0, none⟩) 4 4 ∧ Sl W 2 Col.cells (some ⟨g, 0, none⟩) 4 colsC) rfl (fun _ W W' hk ⟨g, h1, h2⟩ => ⟨g, h1, h2.keep hk⟩) ?_ ?_
    · intro p
      rw [Zone.lookFs_nil (by rfl)]
      simp only [Zone.fill]
      go_simp
      go_at_call 22
      refine (cols25_any _).mono ?_
      rintro e w8 ⟨rfl, hs, hk⟩
      exact ⟨_, rfl, ⟨_, rfl, hs⟩, hk⟩
    refine Zone.wpZ_step (fun K hK => ?_)
    unfold Zone.zone Zone.stepZ
    rw [Zone.lookFs_nil (by rfl)]
    go_simp
    (refine hK _ _ ?_; clear hK K)
    refine Zone.wpZ_free 14 (fun u W => ∃ r : Int, u = .int .i64 r ∧ (r = 0 → NodeWf colsC 1 ⟨op, KA, kc, kids, col, cmp, VB, vd, vals⟩)) rfl (fun _ W W' hk h => h) ?_ ?_
    · intro p
      rw [show Zone.lookFs _ _ _ = [(12, (fun u W => ∃ g, u = .slice (some ⟨g, 0, none⟩) 4 4 ∧ Sl W 2 Col.cells (some ⟨g, 0, none⟩) 4 colsC))] from rfl]
      rintro v8 ⟨g8, rfl, hs⟩
      clear x0 x1 x2 x3 x4 x5 x6 x7 x8 x9 x10 x11 x12 x13 x14 x15
      go_simp
      go_at_call 27
      have h9 := rvalid_any ⟨op, KA, kc, kids, col, cmp, VB, vd, vals⟩ (some ⟨g8, 0, none⟩) 4 colsC g 1 (w1.gro p) hs ((HN1.out.keep (below_gro w1 p)).fresh (by simp [size_gro] <;> omega)) ((Below.cell (below_gro w1 p) (p := ⟨g, 0, none⟩) (World.block_lt_of_cell? _ _ HG0.out)).trans HG0.out) ((Below.cell (below_gro w1 p) (p := ⟨g, 1, none⟩) (World.block_lt_of_cell? _ _ HG1.out)).trans HG1.out) (by omega) (by omega)
      refine h9.mono ?_
      rintro e w8 ⟨r, rfl, hr, hk⟩
      exact ⟨_, rfl, ⟨r, rfl, hr⟩, hk⟩
    refine Zone.wpZ_free 15 (fun u W => ∃ bb, u = .bool bb ∧ (bb = true → NodeWf colsC 1 ⟨op, KA, kc, kids, col, cmp, VB, vd, vals⟩)) rfl (fun _ W W' hk h => h) ?_ ?_
    · intro p
      rw [show Zone.lookFs _ _ _ = [(14, (fun u W => ∃ r : Int, u = .int .i64 r ∧ (r = 0 → NodeWf colsC 1 ⟨op, KA, kc, kids, col, cmp, VB, vd, vals⟩)))] from rfl]
      rintro v8 ⟨r, rfl, hr⟩
      go_simp
      exact hr
    refine Zone.wpZ_free 16 (fun u W => ∃ bb, u = .bool bb ∧ (bb = true → NodeWf colsC 1 ⟨op, KA, kc, kids, col, cmp, VB, vd, vals⟩)) rfl (fun _ W W' hk h => h) ?_ ?_
    · intro p
      rw [show Zone.lookFs _ _ _ = [(15, (fun u W => ∃ bb, u = .bool bb ∧ (bb = true → NodeWf colsC 1 ⟨op, KA, kc, kids, col, cmp, VB, vd, vals⟩)))] from rfl]
      rintro v8 ⟨r, rfl, hr⟩
      go_simp
      exact hr
    refine Zone.wpZ_free 2 (fun u W => ∃ bb, u = .bool bb ∧ (bb = true → NodeWf colsC 1 ⟨op, KA, kc, kids, col, cmp, VB, vd, vals⟩)) rfl (fun _ W W' hk h => h) ?_ ?_
    · intro p
      rw [show Zone.lookFs _ _ _ = [(16, (fun u W => ∃ bb, u = .bool bb ∧ (bb = true → NodeWf colsC 1 ⟨op, KA, kc, kids, col, cmp, VB, vd, vals⟩)))] from rfl]
      rintro v8 ⟨r, rfl, hr⟩
      go_simp
      exact hr
    refine Zone.wpZ_nil ?_
    intro p
    simp only [Zone.fill]
    rintro v2 ⟨bb, rfl, hbb⟩ v16 _ v15 _ v14 _ v12 _
    have HBB := Lib.hid hbb
    have HKW := Lib.hid (HK1.out.trans (below_gro w1 p))
    clear x0 x1 x2 x3 x4 x5 x6 x7 x8 x9 x10 x11 x12 x13 x14 x15
    generalize w1.gro p = w9 at HKW ⊢
    clear hbb
    go_simp
    go_wp2
    go_ret
    exact ⟨bb, rfl, fun h => ⟨by omega, HBB.out h⟩, HKW.out⟩
end Go.Proofs.YthigflnfccajoaaGreat
