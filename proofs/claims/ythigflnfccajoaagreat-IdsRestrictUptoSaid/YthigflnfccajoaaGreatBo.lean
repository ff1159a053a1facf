
/- IdsRows: plain laws: a filter that goes by columns takes a row just if each restriction takes its column's id. -/
import Derived.WalkKit
import Derived.Lib.Hide
import Derived.WalkSpells
import Derived.WalkLawsBesides
import Derived.BigQuiet
import Derived.Shelf.Abstract
import Derived.Test.YthigflnfccajoaaGreatAa
import Derived.Test.YthigflnfccajoaaGreatRtk
namespace Go.Proofs.YthigflnfccajoaaGreat
open Go.RowKit Go.Zone Go.Shelf
theorem rso_sign {a b : Int} (h1 : a < 0 ↔ b < 0) (h2 : 0 < a ↔ 0 < b) (cmp : Int) : rsoB cmp a = rsoB cmp b := by
  have e1 : decide (a < 0) = decide (b < 0) := by simp only [h1]
  have e2 : decide (0 < a) = decide (0 < b) := by simp only [h2]
  have e3 : (a == 0) = (b == 0) := by rw [Bool.eq_iff_iff, beq_iff_eq, beq_iff_eq]; omega
  have e4 : decide (a ≤ 0) = decide (b ≤ 0) := by rw [Bool.eq_iff_iff, decide_eq_true_iff, decide_eq_true_iff]; omega
  have e5 : decide (0 ≤ a) = decide (0 ≤ b) := by rw [Bool.eq_iff_iff, decide_eq_true_iff, decide_eq_true_iff]; omega
  have e6 : (a != 0) = (b != 0) := by simp only [bne, e3]
  unfold rsoB
  rw [e1, e2, e3, e4, e5, e6]
theorem rcmpV_gt (x y : Val) : 0 < rcmpV x y ↔ LtV y x := by
  have h1 := rcmpV_lt x y
  have h2 := rcmpV_eq x y
  constructor
  · intro h
    rcases LtV.tri x y with t | t | t
    · have := h1.2 t; omega
    · have := h2.2 t; omega
    · exact t
  · intro h
    have n1 : ¬ rcmpV x y < 0 := fun h3 => LtV.irrefl y (h.trans (h1.1 h3))
    have n2 : ¬ rcmpV x y = 0 := fun h3 => by have := h2.1 h3; subst this; exact LtV.irrefl _ h
    omega
theorem rso_cmp (cmp : Int) (x y : Val) : rsoB cmp (rcmpV x y) = rsoB cmp (cmpV x y) :=
  rso_sign ((rcmpV_lt x y).trans (cmpV_lt x y).symm) ((rcmpV_gt x y).trans (cmpV_gt x y).symm) cmp
theorem leaf_comp (cmp : Int) (vals : List Val) (x : Val) (hw : 0 ≤ manyF cmp → (vals.length : Int) = manyF cmp) (hm : manyF cmp ≠ -2) : rleafB cmp vals x = compB x cmp vals := by
  unfold rleafB compB
  by_cases h7 : cmp = 7
  · subst h7
    simp only [if_true, Int.reduceEq, if_false]
    congr 1
    funext v
    rw [rso_cmp]
    simp [rsoB, eqQ]
  · by_cases h8 : cmp = 8
    · subst h8
      have hl : vals.length = 2 := by have := hw (by simp [manyF]); simp [manyF] at this; omega
      match vals, hl with
      | [u, v], _ =>
        rw [if_neg (by decide), if_pos rfl]
        simp only [List.getD_cons_zero, List.getD_cons_succ, rso_cmp]
        simp [soB, rsoB]
    · have h16 : 1 ≤ cmp ∧ cmp ≤ 6 := by
        unfold manyF at hm
        by_cases h : 1 ≤ cmp ∧ cmp ≤ 6
        · exact h
        · rw [if_neg h, if_neg h7, if_neg h8] at hm; exact absurd rfl hm
      have hl : vals.length = 1 := by have := hw (by unfold manyF; rw [if_pos h16]; omega); unfold manyF at this; rw [if_pos h16] at this; omega
      match vals, hl with
      | [u], _ =>
        rw [if_neg h7, if_neg h8]
        simp only [List.getD_cons_zero, rso_cmp]
        obtain ⟨a, b⟩ := h16
        have : cmp = 1 ∨ cmp = 2 ∨ cmp = 3 ∨ cmp = 4 ∨ cmp = 5 ∨ cmp = 6 := by omega
        rcases this with rfl | rfl | rfl | rfl | rfl | rfl <;> simp [rsoB, soB]
theorem leaf_one (kind : Int) (n : Nd) (y : Val) (ho : n.op = 4) : leafT1 kind n y = compB y n.cmp n.vals := by
  unfold leafT1
  rw [takesB_eq, if_neg (by omega), if_neg (by omega), if_neg (by omega), if_pos ho]
  simp [leafB, idxP, isCol]
def nC : Nm := [99]
theorem col_which (col : ByteArray) (k : Nat) (hk : k < colsC.length) (h : idxP (isCol col) colsC 0 = (k : Int)) (h3 : colsC[k].kind ≠ 3) : (k = 0 ∧ col.data.toList = nA) ∨ (k = 1 ∧ col.data.toList = nB) ∨ (k = 2 ∧ col.data.toList = nC) := by
  have hb : ∀ (a : UInt8), (⟨#[a]⟩ : ByteArray).toList = [a] := fun a => by rw [Lib.toList_data]
  have hc : col.toList = col.data.toList := Lib.toList_data col
  simp only [colsC, idxP, isCol, hb, hc] at h
  have hk4 : k < 4 := hk
  split at h
  · rename_i e; exact .inl ⟨by omega, (beq_iff_eq.1 e).symm⟩
  · split at h
    · rename_i e; exact .inr (.inl ⟨by omega, (beq_iff_eq.1 e).symm⟩)
    · split at h
      · rename_i e; exact .inr (.inr ⟨by omega, (beq_iff_eq.1 e).symm⟩)
      · split at h
        · have : k = 3 := by omega
          subst this
          exact absurd rfl h3
        · omega
def yOf (y0 y1 y2 : Val) (s : Nm) : Val := if s = nA then y0 else if s = nB then y1 else y2
theorem nAB : nA ≠ nB := by decide
theorem nAC : nA ≠ nC := by decide
theorem nBC : nB ≠ nC := by decide
/-- The columns of a filter that may be asked. -/
theorem wf_cols {d : Nat} {n : Nd} (h : NodeWf colsC d n) : ∀ s ∈ colsOf n, s = nA ∨ s = nB ∨ s = nC := by
  induction h with
  | leaf d n hd ho h =>
    intro s hs
    rw [colsOf_eq, if_pos ho] at hs
    obtain ⟨_, ⟨k, hk, he, h3⟩, _⟩ := h
    have := col_which n.col k hk he h3
    simp at hs
    subst hs
    rcases this with h | h | h
    · exact .inl h.2
    · exact .inr (.inl h.2)
    · exact .inr (.inr h.2)
  | node d n hd ho h hk ih =>
    intro s hs
    have := (cols_mem n s).1 hs
    rw [if_neg ho] at this
    obtain ⟨k, hkk, hs'⟩ := this
    exact ih k hkk s hs'
theorem takes_one (y0 y1 y2 z : Val) (s : Nm) {d : Nat} {n : Nd} (h : NodeWf colsC d n) : (∀ x ∈ colsOf n, x = s) → takesR colsC [y0, y1, y2, z] n = oneB (kindS s) (yOf y0 y1 y2 s) n := by
  induction h with
  | leaf d n hd ho h =>
    intro hs
    obtain ⟨⟨_, hm, hw⟩, ⟨k, hk, he, h3⟩, _⟩ := h
    have hc := col_which n.col k hk he h3
    have hcol := hs n.col.data.toList (by rw [colsOf_eq, if_pos ho]; simp)
    rw [takesR_eq, if_neg (by omega), if_neg (by omega), if_neg (by omega), if_pos ho, oneB_eq, if_pos ho, leaf_one _ _ _ ho, leaf_comp _ _ _ hw hm, he]
    congr 1
    rcases hc with ⟨rfl, e⟩ | ⟨rfl, e⟩ | ⟨rfl, e⟩
    · rw [← hcol, e]; rfl
    · rw [← hcol, e]; simp [yOf, nAB.symm]
    · rw [← hcol, e]; simp [yOf, nAC.symm, nBC.symm]
  | node d n hd ho h hk ih =>
    intro hs
    have ih' : ∀ k ∈ n.kids, takesR colsC [y0, y1, y2, z] k = oneB (kindS s) (yOf y0 y1 y2 s) k := fun k hkk => ih k hkk fun x hx => hs x ((cols_mem n x).2 (by rw [if_neg ho]; exact ⟨k, hkk, hx⟩))
    have ha : n.kids.all (takesR colsC [y0, y1, y2, z]) = n.kids.all (oneB (kindS s) (yOf y0 y1 y2 s)) := by
      rw [Bool.eq_iff_iff, List.all_eq_true, List.all_eq_true]
      exact ⟨fun h k hk => by rw [← ih' k hk]; exact h k hk, fun h k hk => by rw [ih' k hk]; exact h k hk⟩
    have hb : n.kids.any (takesR colsC [y0, y1, y2, z]) = n.kids.any (oneB (kindS s) (yOf y0 y1 y2 s)) := by
      rw [Bool.eq_iff_iff, List.any_eq_true, List.any_eq_true]
      exact ⟨fun ⟨k, hk, h⟩ => ⟨k, hk, by rw [← ih' k hk]; exact h⟩, fun ⟨k, hk, h⟩ => ⟨k, hk, by rw [ih' k hk]; exact h⟩⟩
    rw [takesR_eq, oneB_eq, ha, hb, if_neg ho, if_neg ho]
theorem parts_wf {cols : List Col} (n : Nd) : ∀ L, partsOf n = some L → ∀ d, NodeWf cols d n → ∀ x ∈ L, ∃ d', NodeWf cols d' x := by
  intro L h d hw x hx
  rw [partsOf_eq] at h
  split at h
  · cases h
    simp at hx
    subst hx
    exact ⟨d, hw⟩
  · split at h
    · rename_i h1
      obtain ⟨r, rfl, hr, _⟩ := partsL_sub n.kids [] L h
      obtain ⟨k, hk, m, hm, hxm⟩ := hr x (by simpa using hx)
      exact parts_wf k m hm (d + 1) (hw.kid (by omega) k hk) x hxm
    · cases h
termination_by SizeOf.sizeOf n
decreasing_by exact kid_lt hk
theorem parts_fold {T : Nd → Bool} : ∀ (l : List Nd) (a L : List Nd), (∀ k ∈ l, ∀ m, partsOf k = some m → T k = m.all T) → l.foldl (fun acc k => catO acc (partsOf k)) (some a) = some L → L.all T = (a.all T && l.all T)
  | [], a, L, _, h => by cases h; simp
  | k :: r, a, L, hk, h => by
    rw [List.foldl_cons] at h
    cases hp : partsOf k with
    | none =>
      rw [hp] at h
      have : catO (some a) none = none := rfl
      rw [this, partsL_none] at h
      cases h
    | some m =>
      rw [hp] at h
      have h1 := parts_fold r (a ++ m) L (fun q hq => hk q (by simp [hq])) h
      rw [h1, List.all_append, ← hk k (by simp) m hp, List.all_cons, Bool.and_assoc]
theorem parts_takes (cols : List Col) (row : List Val) (n : Nd) : ∀ L, partsOf n = some L → takesR cols row n = L.all (takesR cols row) := by
  intro L h
  rw [partsOf_eq] at h
  split at h
  · cases h; simp
  · split at h
    · rename_i h1
      have := parts_fold (T := takesR cols row) n.kids [] L (fun k hk m hm => parts_takes cols row k m hm) h
      rw [this, takesR_eq, if_pos h1]
      simp
    · cases h
termination_by SizeOf.sizeOf n
decreasing_by exact kid_lt hk
theorem bit_none (dk : Nm → Int) (s : Nm) (y : Val) {f : Nd} {ps : List Nd} (hp : partsOf f = some ps) (hm : s ∉ colsOf f) : bitTo dk s y ps = true := by
  unfold bitTo
  rw [List.all_eq_true]
  intro p hpp
  have h9 := (parts_cols f ps hp).2 p hpp
  have : (colsOf p).head? ≠ some s := fun e => hm (h9 s (by
    cases hq : colsOf p with
    | nil => rw [hq] at e; cases e
    | cons a b => rw [hq] at e; simp at e; simp [e]))
  simp [this]
/-- A row is taken just if each column's id is, unless nothing is taken. -/
theorem rows_law (y0 y1 y2 z : Val) {d : Nat} {f : Nd} {ps : List Nd} (hw : NodeWf colsC d f) (hp : partsOf f = some ps) :
    takesR colsC [y0, y1, y2, z] f = (!nothTo ps && (bitTo kindS nA y0 ps && (bitTo kindS nB y1 ps && bitTo kindS nC y2 ps))) := by
  have hps : ∀ p ∈ ps, takesR colsC [y0, y1, y2, z] p = (!nothP p && (((colsOf p).head? != some nA || oneB (kindS nA) y0 p) && (((colsOf p).head? != some nB || oneB (kindS nB) y1 p) && ((colsOf p).head? != some nC || oneB (kindS nC) y2 p)))) := by
    intro p hpp
    obtain ⟨d', hw'⟩ := parts_wf f ps hp d hw p hpp
    have h1 := (parts_cols f ps hp).1 p hpp
    have h2 := wf_cols hw'
    have e0 : ∀ s, yOf y0 y1 y2 s = if s = nA then y0 else if s = nB then y1 else y2 := fun s => rfl
    match hq : colsOf p with
    | [] =>
      rw [takes_one y0 y1 y2 z nA hw' (by rw [hq]; intro x hx; cases hx), one_const _ _ [] [] p hq]
      simp [nothP, hq]
    | [s] =>
      rw [takes_one y0 y1 y2 z s hw' (by rw [hq]; intro x hx; simpa using hx)]
      have hn : nothP p = false := by simp [nothP, hq]
      rw [hn]
      rcases h2 s (by rw [hq]; simp) with rfl | rfl | rfl
      · simp [yOf, nAB, nAC, bne]
      · simp [yOf, nAB.symm, bne, (by decide : (nB == nA) = false), (by decide : (nB == nC) = false)]
      · simp [yOf, nAC.symm, nBC.symm, bne, (by decide : (nC == nA) = false), (by decide : (nC == nB) = false)]
    | a :: b :: r => rw [hq] at h1; simp at h1
  rw [parts_takes _ _ f ps hp]
  unfold nothTo bitTo
  rw [Bool.eq_iff_iff]
  simp only [Bool.and_eq_true, Bool.not_eq_true', List.any_eq_false, List.all_eq_true]
  constructor
  · intro h
    refine ⟨fun p hpp hnp => ?_, fun p hpp => ?_, fun p hpp => ?_, fun p hpp => ?_⟩
    all_goals
      have := h p hpp
      rw [hps p hpp] at this
      simp only [Bool.and_eq_true, Bool.not_eq_true'] at this
    · rw [this.1] at hnp; cases hnp
    · exact this.2.1
    · exact this.2.2.1
    · exact this.2.2.2
  · rintro ⟨h1, h2, h3, h4⟩ p hpp
    rw [hps p hpp, h2 p hpp, h3 p hpp, h4 p hpp]
    have := h1 p hpp
    simp only [Bool.not_eq_true] at this
    rw [this]
    rfl
end Go.Proofs.YthigflnfccajoaaGreat
/- IdsRows, IdsRestrict: which dictionary a column has. -/
namespace Go.Proofs.YthigflnfccajoaaGreat
open Go.RowKit Go.Zone Go.Shelf Go.Sort
attribute [local go_sem] Zone.zone Zone.stepZ Zone.fill Zone.lookFs Zone.goes Zone.goesUpon Zone.dropFs Zone.cell_gro Zone.frozen_gro Zone.size_gro Zone.lt_add Zone.drew_gro Zone.tape_gro Zone.keep_refl
attribute [local go_sem] Zone.lt_add2 Zone.lt_add3 Zone.lt_add4 Zone.lt_add5 Zone.lt_add6 Zone.lt_add7 Zone.lt_add8 Zone.lt_add9 Zone.lt_add10 Zone.lt_add11 Zone.lt_add12
def names3 : List Nm := [nA, nB, nC]
def ixN (s : Nm) : Nat := if s = nA then 0 else if s = nB then 1 else 2
theorem ix_lt (s : Nm) : ixN s < 3 := by unfold ixN; repeat' split
                                         all_goals omega
theorem ix_at (s : Nm) (h : s = nA ∨ s = nB ∨ s = nC) : names3[ixN s]'(ix_lt s) = s := by
  rcases h with rfl | rfl | rfl
  · rfl
  · rfl
  · rfl
theorem ix_ne (s : Nm) (j : Nat) (hj : j < ixN s) : names3[j]'(by have := ix_lt s; simp [names3]; omega) ≠ s := by
  unfold ixN at hj
  split at hj
  · omega
  · rename_i h1
    split at hj
    · obtain rfl : j = 0 := by omega
      exact fun e => h1 e.symm
    · rename_i h2
      rcases (show j = 0 ∨ j = 1 by omega) with rfl | rfl
      · exact fun e => h1 e.symm
      · exact fun e => h2 e.symm
theorem pick_ix (m0 m1 m2 : Mc) (s : Nm) : [m0, m1, m2][ixN s]'(ix_lt s) = pickM m0 m1 m2 s := by
  unfold pickM
  by_cases h1 : s = nA
  · subst h1; rfl
  · by_cases h2 : s = nB
    · subst h2; rfl
    · have : ixN s = 2 := by unfold ixN; rw [if_neg h1, if_neg h2]
      simp only [this, if_neg h1, if_neg h2]
      rfl
set_option maxHeartbeats 1000000 in
theorem rows1_any (s : ByteArray) (b1 b2 : Nat) (NA : Option Addr) (nc : Nat) (A : Option Addr) (c : Nat) (m0 m1 m2 : Mc) (w : World) (h1 : w.cell? ⟨b1, 0, none⟩ = some (.slice NA 3 nc)) (hn : Sl w 1 nmV NA nc names3) (h2 : w.cell? ⟨b2, 0, none⟩ = some (.slice A 3 c)) (hs : Sl w 1 ptrV A c [m0, m1, m2]) (hst : s.toList = nA ∨ s.toList = nB ∨ s.toList = nC) :
    Calls Tryz.prog 20 #[.string s, .pointer (some ⟨b1, 0, none⟩), .pointer (some ⟨b2, 0, none⟩)] w fun e w' => e = .returned (.pointer (some ⟨(pickM m0 m1 m2 s.toList).b, 0, none⟩)) ∧ Keep w w' := by
  have hb1 := World.block_lt_of_cell? _ _ h1
  have hb2 := World.block_lt_of_cell? _ _ h2
  simp only at hb1 hb2
  have HN := Lib.hid hn
  have HS := Lib.hid hs
  obtain ⟨ix, hil, e1, e2, e3⟩ : ∃ ix, ∃ h : ix < 3, names3[ix]'h = s.toList ∧ (∀ j, (hj : j < ix) → names3[j]'(by simp [names3]; omega) ≠ s.toList) ∧ [m0, m1, m2][ix]'h = pickM m0 m1 m2 s.toList :=
    ⟨ixN s.toList, ix_lt _, ix_at s.toList hst, ix_ne s.toList, pick_ix m0 m1 m2 s.toList⟩
  have HIX := Lib.hid e1
  have HNE := Lib.hid e2
  have HPK := Lib.hid e3
  clear e1 e2 e3
  obtain ⟨pm, hpm⟩ : ∃ pm, pickM m0 m1 m2 s.toList = pm := ⟨_, rfl⟩
  rw [hpm] at HPK ⊢
  clear hn hs hst hpm
  go_enter Tryz.func20, Tryz.ntmps20
  go_wp2
  go_loop [8] (fun i => ∃ k : Nat, k ≤ ix ∧ i = .int .i64 k) (fun i => 3 - (intOf i).toNat)
  case atStart => exact ⟨0, Nat.zero_le _, rfl⟩
  case round =>
    obtain ⟨k, hk, rfl⟩ := hrel
    have hk3 : k < 3 := by omega
    obtain ⟨nb, no, rfl, hnb, n0⟩ := sl_nm HN.out k hk3
    obtain ⟨x, hxe, hxl⟩ := enc_out (names3[k]'hk3)
    rw [hxe] at n0
    have HXL := Lib.hid hxl
    clear hxe hxl
    by_cases hlt : k < ix
    · have he : (x.toList == s.toList) = false := by rw [HXL.out]; exact beq_eq_false_iff_ne.2 (HNE.out k hlt)
      go_wp2
      go_round
      case rel => exact ⟨k + 1, by omega, by go_num⟩
      case measure => simp [intOf]; omega
    · have hke : k = ix := by omega
      subst hke
      have he : (x.toList == s.toList) = true := by rw [HXL.out, HIX.out]; simp
      obtain ⟨pb, po, rfl, hpb, p0⟩ := sl_ptr HS.out k hk3
      rw [HPK.out] at p0
      go_wp2
      go_ret
      exact ⟨rfl, (by repeat (first | exact Keep.refl _ | apply Keep.alloc | apply Keep.gro | apply Keep.drew | apply Keep.drewN))⟩
theorem of_rows {w : World} {b1 b2 : Nat} {NA : Option Addr} {nc : Nat} {A : Option Addr} {c : Nat} {R : Value} {xs0 xs1 xs2 : List Val} {m0 m1 m2 : Mc} (h1 : w.cell? ⟨b1, 0, none⟩ = some (.slice NA 3 nc)) (hn : Sl w 1 nmV NA nc names3) (h : w.cell? ⟨b2, 0, none⟩ = some (.slice A 3 c)) (hm : Made w (.slice A 3 c) R xs0 xs1 xs2 [m0, m1, m2]) (S : List Nm) (hS : ∀ s ∈ S, s = nA ∨ s = nB ∨ s = nC) :
    OfOk w 20 #[.pointer (some ⟨b1, 0, none⟩), .pointer (some ⟨b2, 0, none⟩)] S (fun s => (pickM m0 m1 m2 s).b) kindS (fun s => (pickM m0 m1 m2 s).A) (fun s => (pickM m0 m1 m2 s).c) (fun s => (pickM m0 m1 m2 s).xs) := by
  refine ⟨enters_of Tryz.func20 (by kernel_rfl) rfl, fun W s hs hW => ?_, fun s _ => (pick_xs hm s).1.d, fun s _ => ?_, fun s _ => by have := (pick_xs hm s).2; omega⟩
  · obtain ⟨A', c', e, hsl⟩ := hm.ptrs
    cases e
    obtain ⟨sb, he, hl⟩ := enc_out s
    rw [he]
    have h1 := rows1_any sb b1 b2 NA nc A c m0 m1 m2 W ((hW.cell (World.block_lt_of_cell? _ _ h1)).trans h1) (hn.keep hW) ((hW.cell (World.block_lt_of_cell? _ _ h)).trans h) (hsl.keep hW) (by rw [hl]; exact hS s hs)
    rw [hl] at h1
    exact h1
  · unfold kindS
    repeat' split
    all_goals simp
end Go.Proofs.YthigflnfccajoaaGreat
