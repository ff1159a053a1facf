
/- IdsAnd: plain laws: which ids both take is what each takes. -/
import Derived.WalkKit
import Derived.Lib.Hide
import Derived.WalkSpells
import Derived.WalkLawsBesides
import Derived.BigQuiet
import Derived.Shelf.Abstract
import Derived.Test.YthigflnfccajoaaGreatIrest2
import Derived.Test.YthigflnfccajoaaGreatIkk
import Derived.Test.YthigflnfccajoaaGreatMd
import Derived.Test.YthigflnfccajoaaGreatRcol
namespace Go.Proofs.YthigflnfccajoaaGreat
open Go.RowKit Go.Zone Go.Shelf
/-- Whether a filter of one column takes a value. -/
def oneB (kind : Int) (y : Val) (n : Nd) : Bool :=
  if n.op = 4 then leafT1 kind n y
  else if n.op = 1 then n.kids.attach.all fun k => oneB kind y k.1
  else if n.op = 2 then n.kids.attach.any fun k => oneB kind y k.1
  else if n.op = 3 then !(n.kids.attach.any fun k => oneB kind y k.1)
  else true
termination_by SizeOf.sizeOf n
decreasing_by all_goals exact kid_lt k.2
theorem all_att {α : Type} (l : List α) (p : α → Bool) : (l.attach.all fun x => p x.1) = l.all p := by
  conv => rhs; rw [← List.attach_map_subtype_val l, List.all_map]
  rfl
theorem oneB_eq (kind : Int) (y : Val) (n : Nd) : oneB kind y n =
    if n.op = 4 then leafT1 kind n y else if n.op = 1 then n.kids.all (oneB kind y) else if n.op = 2 then n.kids.any (oneB kind y) else if n.op = 3 then !(n.kids.any (oneB kind y)) else true := by
  rw [oneB]
  rw [all_att n.kids (oneB kind y), any_att n.kids (oneB kind y)]
theorem cnt_kids (ys : List Val) (kids : List Nd) (kind : Int) (h : ∀ k ∈ kids, oneF kind ys k = ys.map fun y => oneB kind y k) (i : Nat) (hi : i < ys.length) : cntL (kids.map (oneF kind ys)) i = kids.countP (oneB kind ys[i]) := by
  unfold cntL
  rw [List.countP_map]
  refine List.countP_congr fun k hk => ?_
  simp only [Function.comp_apply]
  rw [h k hk]
  simp [List.getD, List.getElem?_map, List.getElem?_eq_getElem hi]
theorem one_get (kind : Int) (ys : List Val) (n : Nd) : oneF kind ys n = ys.map fun y => oneB kind y n := by
  have ih : ∀ k ∈ n.kids, oneF kind ys k = ys.map fun y => oneB kind y k := fun k hk => one_get kind ys k
  have hc := cnt_kids ys n.kids kind ih
  have he : ∀ (p : Nat → Bool) (q : Val → Bool), (∀ i, (h : i < ys.length) → p (n.kids.countP (oneB kind ys[i])) = q ys[i]) → eachL ys.length (n.kids.map (oneF kind ys)) p = ys.map q := by
    intro p q hpq
    apply List.ext_getElem
    · simp [eachL]
    · intro i h1 h2
      have hi : i < ys.length := by simpa using h2
      simp only [eachL, List.getElem_map, List.getElem_range]
      rw [hc i hi, hpq i hi]
  have hob : ∀ y, oneB kind y n = _ := fun y => oneB_eq kind y n
  rw [oneF_eq]
  simp only [hob]
  by_cases h4 : n.op = 4
  · simp only [h4, if_true]; rfl
  · simp only [if_neg h4]
    by_cases h1 : n.op = 1
    · simp only [h1, if_true]
      refine he _ _ fun i hi => ?_
      rw [Bool.eq_iff_iff, beq_iff_eq, List.countP_eq_length, List.all_eq_true]
    · simp only [if_neg h1]
      by_cases h2 : n.op = 2
      · simp only [h2, if_true]
        refine he _ _ fun i hi => ?_
        rw [Bool.eq_iff_iff, decide_eq_true_iff, List.countP_pos_iff, List.any_eq_true]
      · simp only [if_neg h2]
        by_cases h3 : n.op = 3
        · simp only [h3, if_true]
          refine he _ _ fun i hi => ?_
          rw [Bool.eq_iff_iff, beq_iff_eq, List.countP_eq_zero, Bool.not_eq_true', List.any_eq_false]
        · simp only [if_neg h3]
          exact List.map_const'.symm
termination_by SizeOf.sizeOf n
decreasing_by exact kid_lt hk
theorem cols_nil {n : Nd} (h : colsOf n = []) : n.op ≠ 4 ∧ ∀ k ∈ n.kids, colsOf k = [] := by
  have h4 : n.op ≠ 4 := fun h4 => by rw [colsOf_eq, if_pos h4] at h; cases h
  refine ⟨h4, fun k hk => ?_⟩
  rw [List.eq_nil_iff_forall_not_mem]
  intro s hs
  have := (cols_mem n s).2 (by rw [if_neg h4]; exact ⟨k, hk, hs⟩)
  rw [h] at this
  cases this
/-- A filter without columns takes all or nothing. -/
theorem one_const (kind : Int) (y : Val) (cols : List Col) (row : List Val) (n : Nd) (h : colsOf n = []) : oneB kind y n = takesB cols row n := by
  obtain ⟨h4, hk⟩ := cols_nil h
  have ih : ∀ k ∈ n.kids, oneB kind y k = takesB cols row k := fun k hkk => one_const kind y cols row k (hk k hkk)
  rw [oneB_eq, takesB_eq, if_neg h4]
  have ha : n.kids.all (oneB kind y) = !(n.kids.any fun k => !takesB cols row k) := by
    rw [Bool.eq_iff_iff, List.all_eq_true, Bool.not_eq_true', List.any_eq_false]
    exact ⟨fun h k hkk => by rw [← ih k hkk, h k hkk]; simp, fun h k hkk => by rw [ih k hkk]; simpa using h k hkk⟩
  have hb : n.kids.any (oneB kind y) = n.kids.any (takesB cols row) := by
    rw [Bool.eq_iff_iff, List.any_eq_true, List.any_eq_true]
    exact ⟨fun ⟨k, hkk, h⟩ => ⟨k, hkk, by rw [← ih k hkk]; exact h⟩, fun ⟨k, hkk, h⟩ => ⟨k, hkk, by rw [ih k hkk]; exact h⟩⟩
  rw [ha, hb]
  repeat' split
  all_goals rfl
termination_by SizeOf.sizeOf n
decreasing_by exact kid_lt hkk
/-- Whether an id of column s is left by some parts. -/
def bitTo (dk : Nm → Int) (s : Nm) (y : Val) (ps : List Nd) : Bool := ps.all fun p => (colsOf p).head? != some s || oneB (dk s) y p
theorem may_get (dk : Nm → Int) (dy : Nm → List Val) (s : Nm) (ps : List Nd) : mayTo dk dy s ps = (dy s).map fun y => bitTo dk s y ps := by
  have h : ∀ (ps : List Nd) (q : Val → Bool), ps.foldl (mayStep dk dy s) ((dy s).map q) = (dy s).map fun y => q y && bitTo dk s y ps := by
    intro ps
    induction ps with
    | nil => intro q; simp [bitTo]
    | cons p r ih =>
      intro q
      rw [List.foldl_cons]
      have : mayStep dk dy s ((dy s).map q) p = (dy s).map fun y => q y && ((colsOf p).head? != some s || oneB (dk s) y p) := by
        unfold mayStep
        split
        · rename_i he
          rw [one_get, List.zipWith_map, List.zipWith_self]
          simp [he]
        · rename_i he
          have : ((colsOf p).head? != some s) = true := by simpa using he
          simp [this]
      rw [this, ih]
      refine List.map_congr_left fun y _ => ?_
      simp only [bitTo, List.all_cons, Bool.and_assoc]
  unfold mayTo
  have h0 : List.replicate (dy s).length true = (dy s).map fun _ => true := List.map_const'.symm
  rw [h0, h]
  simp
/-- Both of two filters. -/
def bothN (g : Nat) (f h : Nd) : Nd := ⟨1, some ⟨g, 0, none⟩, 2, [f, h], ⟨#[]⟩, 0, none, 0, []⟩
theorem both_mem (g : Nat) (f h : Nd) (s : Nm) : s ∈ colsOf (bothN g f h) ↔ s ∈ colsOf f ∨ s ∈ colsOf h := by
  rw [cols_mem, if_neg (by simp [bothN])]
  simp [bothN]
theorem both_parts (g : Nat) (f h : Nd) (hl : ¬ (colsOf (bothN g f h)).length ≤ 1) : partsOf (bothN g f h) = catO (partsOf f) (partsOf h) := by
  rw [partsOf_eq, if_neg hl, if_pos (show (bothN g f h).op = 1 from rfl)]
  simp only [partsL, bothN, List.foldl_cons, List.foldl_nil]
  cases partsOf f <;> cases partsOf h <;> simp [catO]
theorem both_one (g : Nat) (f h : Nd) (hl : (colsOf (bothN g f h)).length ≤ 1) : partsOf (bothN g f h) = some [bothN g f h] := by
  rw [partsOf_eq, if_pos hl]
theorem both_bit (g : Nat) (f h : Nd) (kind : Int) (y : Val) : oneB kind y (bothN g f h) = (oneB kind y f && oneB kind y h) := by
  rw [oneB_eq, if_neg (by simp [bothN]), if_pos (by rfl)]
  simp [bothN]
theorem both_takes (g : Nat) (f h : Nd) : takesB [] [] (bothN g f h) = (takesB [] [] f && takesB [] [] h) := by
  rw [takesB_eq, if_pos (show (bothN g f h).op = 1 from rfl)]
  simp only [bothN, List.any_cons, List.any_nil, Bool.or_false, Bool.not_or, Bool.not_not]
theorem cols_sub {a : List Nm} {s : Nm} (hn : a.Nodup) (h : ∀ x ∈ a, x = s) : a = [] ∨ a = [s] := by
  rcases a with _ | ⟨x, _ | ⟨y, r⟩⟩
  · exact .inl rfl
  · exact .inr (by rw [h x (by simp)])
  · have h1 := h x (by simp)
    have h2 := h y (by simp)
    rw [List.nodup_cons] at hn
    exact absurd (by rw [h1, h2]; simp) hn.1
/-- Where both go by columns, so do they together; else not, but for one column. -/
theorem both_goes (g : Nat) (f h : Nd) (hf : partsOf f = none ∨ partsOf h = none) (hl : ¬ (colsOf (bothN g f h)).length ≤ 1) : partsOf (bothN g f h) = none := by
  rw [both_parts g f h hl]
  rcases hf with e | e <;> rw [e] <;> cases partsOf f <;> cases partsOf h <;> rfl
section
variable {g : Nat} {f h : Nd} {pf ph pc : List Nd} (hf : partsOf f = some pf) (hh : partsOf h = some ph)
include hf hh
theorem both_yes : ∃ pc, partsOf (bothN g f h) = some pc := by
  by_cases hl : (colsOf (bothN g f h)).length ≤ 1
  · exact ⟨_, both_one g f h hl⟩
  · rw [both_parts g f h hl, hf, hh]; exact ⟨_, rfl⟩
theorem both_noth (hc : partsOf (bothN g f h) = some pc) (h1 : (colsOf (bothN g f h)).length ≠ 1) : nothTo pc = (nothTo pf || nothTo ph) := by
  by_cases hl : (colsOf (bothN g f h)).length ≤ 1
  · have h0 : colsOf (bothN g f h) = [] := List.eq_nil_of_length_eq_zero (by omega)
    rw [both_one g f h hl] at hc
    have hfn : colsOf f = [] := List.eq_nil_iff_forall_not_mem.2 fun s hs => by have := (both_mem g f h s).2 (.inl hs); rw [h0] at this; cases this
    have hhn : colsOf h = [] := List.eq_nil_iff_forall_not_mem.2 fun s hs => by have := (both_mem g f h s).2 (.inr hs); rw [h0] at this; cases this
    rw [partsOf_eq, if_pos (by simp [hfn])] at hf
    rw [partsOf_eq, if_pos (by simp [hhn])] at hh
    cases hc; cases hf; cases hh
    simp only [nothTo, List.any_cons, List.any_nil, Bool.or_false, nothP, h0, hfn, hhn, List.isEmpty_nil, Bool.true_and, both_takes, Bool.not_and]
  · rw [both_parts g f h hl, hf, hh] at hc
    cases hc
    simp [nothTo, List.any_append]
theorem both_bits (hc : partsOf (bothN g f h) = some pc) (dk : Nm → Int) (s : Nm) (hs : s ∈ colsOf (bothN g f h)) (y : Val) :
    bitTo dk s y pc = ((decide (s ∉ colsOf f) || bitTo dk s y pf) && (decide (s ∉ colsOf h) || bitTo dk s y ph) && (decide ((colsOf (bothN g f h)).length ≠ 1) || (!nothTo pf && !nothTo ph))) := by
  by_cases hl : (colsOf (bothN g f h)).length ≤ 1
  · have hone : colsOf (bothN g f h) = [s] := by
      match hq : colsOf (bothN g f h) with
      | [] => rw [hq] at hs; cases hs
      | [x] => rw [hq] at hs; simp at hs; rw [hs]
      | x :: y :: r => rw [hq] at hl; simp at hl
    rw [both_one g f h hl] at hc
    cases hc
    have side : ∀ (n : Nd) (ps : List Nd), partsOf n = some ps → (∀ x ∈ colsOf n, x = s) → oneB (dk s) y n = ((decide (s ∉ colsOf n) || bitTo dk s y ps) && !nothTo ps) := by
      intro n ps hp hx
      rcases cols_sub (cols_nodup n) hx with e | e
      · rw [partsOf_eq, if_pos (by simp [e])] at hp
        cases hp
        rw [one_const (dk s) y [] [] n e]
        simp [e, nothTo, nothP]
      · rw [partsOf_eq, if_pos (by simp [e])] at hp
        cases hp
        simp [e, nothTo, nothP, bitTo]
    have sf := side f pf hf fun x hx => by have := (both_mem g f h x).2 (.inl hx); rw [hone] at this; simpa using this
    have sh := side h ph hh fun x hx => by have := (both_mem g f h x).2 (.inr hx); rw [hone] at this; simpa using this
    have hb : bitTo dk s y [bothN g f h] = oneB (dk s) y (bothN g f h) := by simp [bitTo, hone]
    rw [hb, both_bit, sf, sh, hone]
    simp only [List.length_singleton, ne_eq, not_true_eq_false, decide_false, Bool.false_or]
    cases (decide (s ∉ colsOf f) || bitTo dk s y pf) <;> cases (decide (s ∉ colsOf h) || bitTo dk s y ph) <;> cases nothTo pf <;> cases nothTo ph <;> rfl
  · rw [both_parts g f h hl, hf, hh] at hc
    cases hc
    have side : ∀ (n : Nd) (ps : List Nd), partsOf n = some ps → bitTo dk s y ps = (decide (s ∉ colsOf n) || bitTo dk s y ps) := by
      intro n ps hp
      by_cases hm : s ∈ colsOf n
      · simp [hm]
      · have : bitTo dk s y ps = true := by
          unfold bitTo
          rw [List.all_eq_true]
          intro p hpp
          have h9 := (parts_cols n ps hp).2 p hpp
          have : (colsOf p).head? ≠ some s := fun e => hm (h9 s (by
            cases hq : colsOf p with
            | nil => rw [hq] at e; cases e
            | cons a b => rw [hq] at e; simp at e; simp [e]))
          simp [this]
        simp [hm, this]
    have hb : bitTo dk s y (pf ++ ph) = (bitTo dk s y pf && bitTo dk s y ph) := by simp [bitTo, List.all_append]
    rw [hb, ← side f pf hf, ← side h ph hh]
    have : decide ((colsOf (bothN g f h)).length ≠ 1) = true := by simp; omega
    rw [this]
    simp
end
end Go.Proofs.YthigflnfccajoaaGreat
/- IdsAnd: which dictionary a column has. -/
namespace Go.Proofs.YthigflnfccajoaaGreat
open Go.RowKit Go.Zone Go.Shelf Go.Sort
attribute [local go_sem] Zone.zone Zone.stepZ Zone.fill Zone.lookFs Zone.goes Zone.goesUpon Zone.dropFs Zone.cell_gro Zone.frozen_gro Zone.size_gro Zone.lt_add Zone.drew_gro Zone.tape_gro Zone.keep_refl
attribute [local go_sem] Zone.lt_add2 Zone.lt_add3 Zone.lt_add4 Zone.lt_add5 Zone.lt_add6 Zone.lt_add7 Zone.lt_add8 Zone.lt_add9 Zone.lt_add10 Zone.lt_add11 Zone.lt_add12
def nA : Nm := [97]
def nB : Nm := [98]
def pickM (m0 m1 m2 : Mc) (s : Nm) : Mc := if s = nA then m0 else if s = nB then m1 else m2
def kindS (s : Nm) : Int := if s = nA then 1 else if s = nB then 2 else 1
theorem sl_ptr {w : World} {c : Nat} {A : Option Addr} {xs : List Mc} (h : Sl w 1 ptrV A c xs) (i : Nat) (hi : i < xs.length) : ∃ b off, A = some ⟨b, off, none⟩ ∧ b < w.heap.size ∧ w.cell? ⟨b, off + i, none⟩ = some (.pointer (some ⟨xs[i].b, 0, none⟩)) := by
  obtain ⟨b, off, hA, hc⟩ := h.at_ i hi
  have h0 := hc 0 _ rfl
  exact ⟨b, off, hA, World.block_lt_of_cell? w _ h0, by simpa using h0⟩
theorem tl_a1 : (⟨#[97]⟩ : ByteArray).toList = nA := by first | rfl | kernel_rfl
theorem tl_b1 : (⟨#[98]⟩ : ByteArray).toList = nB := by first | rfl | kernel_rfl
set_option maxHeartbeats 1000000 in
theorem and1_any (s : ByteArray) (b : Nat) (A : Option Addr) (c : Nat) (m0 m1 m2 : Mc) (w : World) (h : w.cell? ⟨b, 0, none⟩ = some (.slice A 3 c)) (hs : Sl w 1 ptrV A c [m0, m1, m2]) :
    Calls Tryz.prog 23 #[.string s, .pointer (some ⟨b, 0, none⟩)] w fun e w' => e = .returned (.pointer (some ⟨(pickM m0 m1 m2 s.toList).b, 0, none⟩)) ∧ Keep w w' := by
  obtain ⟨pb, po, rfl, hpb, p0⟩ := sl_ptr hs 0 (by simp)
  obtain ⟨pb', po', e', _, p1⟩ := sl_ptr hs 1 (by simp)
  cases e'
  obtain ⟨pb', po', e', _, p2⟩ := sl_ptr hs 2 (by simp)
  cases e'
  simp only [List.getElem_cons_zero, List.getElem_cons_succ, Nat.add_zero] at p0 p1 p2
  have hb := World.block_lt_of_cell? _ _ h
  simp only at hb
  clear hs
  unfold pickM
  cases ha : (s.toList == [97])
  · have hna : s.toList ≠ nA := by simpa [nA] using ha
    rw [if_neg hna]
    cases hb1 : (s.toList == [98])
    · have hnb : s.toList ≠ nB := by simpa [nB] using hb1
      rw [if_neg hnb]
      clear hna hnb
      go_enter Tryz.func23, Tryz.ntmps23
      go_wp2
      go_ret
      exact ⟨rfl, (by repeat (first | exact Keep.refl _ | apply Keep.alloc | apply Keep.gro | apply Keep.drew | apply Keep.drewN))⟩
    · have hnb : s.toList = nB := by simpa [nB] using hb1
      rw [if_pos hnb]
      clear hna hnb
      go_enter Tryz.func23, Tryz.ntmps23
      go_wp2
      go_ret
      exact ⟨rfl, (by repeat (first | exact Keep.refl _ | apply Keep.alloc | apply Keep.gro | apply Keep.drew | apply Keep.drewN))⟩
  · have hna : s.toList = nA := by simpa [nA] using ha
    rw [if_pos hna]
    clear hna
    go_enter Tryz.func23, Tryz.ntmps23
    go_wp2
    go_ret
    exact ⟨rfl, (by repeat (first | exact Keep.refl _ | apply Keep.alloc | apply Keep.gro | apply Keep.drew | apply Keep.drewN))⟩
theorem pick_xs {w : World} {P R : Value} {xs0 xs1 xs2 : List Val} {m0 m1 m2 : Mc} (h : Made w P R xs0 xs1 xs2 [m0, m1, m2]) (s : Nm) : McOk w (kindS s) (pickM m0 m1 m2 s) ∧ (pickM m0 m1 m2 s).xs.length ≤ 60 := by
  have h0 := h.ok 0 (by simp)
  have h1 := h.ok 1 (by simp)
  have h2 := h.ok 2 (by simp)
  have f0 := (h.fit 0 (by omega)).1
  have f1 := (h.fit 1 (by omega)).1
  have f2 := (h.fit 2 (by omega)).1
  simp only [List.getElem_cons_zero, List.getElem_cons_succ] at h0 h1 h2
  have l0 := dOwn_len (inp xs0 xs1 xs2 0)
  have l1 := dOwn_len (inp xs0 xs1 xs2 1)
  have l2 := dOwn_len (inp xs0 xs1 xs2 2)
  unfold pickM kindS
  split
  · exact ⟨h0.1, by rw [h0.2]; omega⟩
  · split
    · exact ⟨h1.1, by rw [h1.2]; omega⟩
    · exact ⟨h2.1, by rw [h2.2]; omega⟩
theorem of_and {w : World} {b : Nat} {A : Option Addr} {c : Nat} {R : Value} {xs0 xs1 xs2 : List Val} {m0 m1 m2 : Mc} (h : w.cell? ⟨b, 0, none⟩ = some (.slice A 3 c)) (hm : Made w (.slice A 3 c) R xs0 xs1 xs2 [m0, m1, m2]) (S : List Nm) :
    OfOk w 23 #[.pointer (some ⟨b, 0, none⟩)] S (fun s => (pickM m0 m1 m2 s).b) kindS (fun s => (pickM m0 m1 m2 s).A) (fun s => (pickM m0 m1 m2 s).c) (fun s => (pickM m0 m1 m2 s).xs) := by
  refine ⟨enters_of Tryz.func23 (by kernel_rfl) rfl, fun W s _ hW => ?_, fun s _ => (pick_xs hm s).1.d, fun s _ => ?_, fun s _ => by have := (pick_xs hm s).2; omega⟩
  · obtain ⟨A', c', e, hs⟩ := hm.ptrs
    cases e
    obtain ⟨sb, he, hl⟩ := enc_out s
    rw [he]
    have h1 := and1_any sb b A c m0 m1 m2 W ((hW.cell (World.block_lt_of_cell? _ _ h)).trans h) (hs.keep hW)
    rw [hl] at h1
    exact h1
  · unfold kindS
    repeat' split
    all_goals simp
end Go.Proofs.YthigflnfccajoaaGreat
/- IdsAnd: what the inner loop gathers is what the restrictions of both say: plain. -/
namespace Go.Proofs.YthigflnfccajoaaGreat
open Go.RowKit Go.Zone Go.Shelf
def wantF (rs : List Rs) (s : Nm) (id : Nat) : Bool := rs.all fun r => r.col != s || r.may.getD id false
theorem wantF_succ (rs : List Rs) (s : Nm) (id m : Nat) (h : m < rs.length) : wantF (rs.take (m + 1)) s id = (wantF (rs.take m) s id && (rs[m].col != s || rs[m].may.getD id false)) := by
  unfold wantF
  rw [List.take_succ_eq_append_getElem h, List.all_append]
  simp
section
variable {dk : Nm → Int} {dy : Nm → List Val} {cs : List Nm} {ps : List Nd} {rs : List Rs} (hm : rs.map (fun r => (r.col, r.may)) = cs.map fun s => (s, mayTo dk dy s ps))
include hm
theorem rs_of : ∀ r ∈ rs, r.col ∈ cs ∧ r.may = mayTo dk dy r.col ps := by
  intro r hr
  have h1 : (r.col, r.may) ∈ rs.map (fun r => (r.col, r.may)) := List.mem_map.2 ⟨r, hr, rfl⟩
  rw [hm, List.mem_map] at h1
  obtain ⟨s, hs, e⟩ := h1
  injection e with e1 e2
  rw [← e1]
  exact ⟨hs, e2.symm⟩
theorem rs_has : ∀ s ∈ cs, ∃ r ∈ rs, r.col = s ∧ r.may = mayTo dk dy s ps := by
  intro s hs
  have h1 : (s, mayTo dk dy s ps) ∈ cs.map fun s => (s, mayTo dk dy s ps) := List.mem_map.2 ⟨s, hs, rfl⟩
  rw [← hm, List.mem_map] at h1
  obtain ⟨r, hr, e⟩ := h1
  injection e with e1 e2
  exact ⟨r, hr, e1, e2⟩
theorem rs_len_cs : rs.length = cs.length := by simpa using congrArg List.length hm
theorem rs_may_len : ∀ r ∈ rs, r.may.length = (dy r.col).length := fun r hr => by rw [(rs_of hm r hr).2]; exact mayTo_len dk dy _ _ _ (by simp)
theorem want_one (s : Nm) (id : Nat) (hid : id < (dy s).length) : wantF rs s id = (decide (s ∉ cs) || bitTo dk s (dy s)[id] ps) := by
  have hb : ∀ r ∈ rs, r.col = s → r.may.getD id false = bitTo dk s (dy s)[id] ps := fun r hr e => by
    rw [(rs_of hm r hr).2, e, may_get]
    simp [List.getD, List.getElem?_map, List.getElem?_eq_getElem hid]
  unfold wantF
  by_cases hs : s ∈ cs
  · obtain ⟨r, hr, e, _⟩ := rs_has hm s hs
    cases hq : bitTo dk s (dy s)[id] ps
    · have : decide (s ∉ cs) = false := by simpa using hs
      rw [this, Bool.false_or, List.all_eq_false]
      exact ⟨r, hr, by rw [hb r hr e, hq]; simp [e]⟩
    · rw [Bool.or_true, List.all_eq_true]
      intro r hr
      by_cases e : r.col = s
      · rw [hb r hr e, hq]; simp
      · have : (r.col != s) = true := by simpa using e
        rw [this]; rfl
  · have : decide (s ∉ cs) = true := by simpa using hs
    rw [this, Bool.true_or, List.all_eq_true]
    intro r hr
    have : (r.col != s) = true := by
      have h1 := (rs_of hm r hr).1
      simp only [bne_iff_ne, ne_eq]
      intro e
      exact hs (e ▸ h1)
    rw [this]; rfl
end
theorem want_law {dk : Nm → Int} {dy : Nm → List Val} {g : Nat} {f h : Nd} {pf ph pc : List Nd} {ra rb rc : List Rs} (hf : partsOf f = some pf) (hh : partsOf h = some ph) (hc : partsOf (bothN g f h) = some pc)
    (ma : ra.map (fun r => (r.col, r.may)) = (colsOf f).map fun s => (s, mayTo dk dy s pf)) (mb : rb.map (fun r => (r.col, r.may)) = (colsOf h).map fun s => (s, mayTo dk dy s ph)) (mc : rc.map (fun r => (r.col, r.may)) = (colsOf (bothN g f h)).map fun s => (s, mayTo dk dy s pc))
    (k : Nat) (hk : k < rc.length) (id : Nat) (hid : id < rc[k].may.length) :
    rc[k].may[id] = (wantF (ra ++ rb) rc[k].col id && (decide (rc.length ≠ 1) || (!nothTo pf && !nothTo ph))) := by
  have h1 := rs_of mc rc[k] (List.getElem_mem hk)
  have hl := rs_may_len mc rc[k] (List.getElem_mem hk)
  have hid' : id < (dy rc[k].col).length := by omega
  have h2 : rc[k].may[id] = bitTo dk rc[k].col (dy rc[k].col)[id] pc := by
    have : rc[k].may[id]? = some (bitTo dk rc[k].col (dy rc[k].col)[id] pc) := by
      rw [h1.2, may_get]
      simp [List.getElem?_map, List.getElem?_eq_getElem hid']
    rw [List.getElem?_eq_getElem hid] at this
    exact Option.some.inj this
  have h3 : wantF (ra ++ rb) rc[k].col id = (wantF ra rc[k].col id && wantF rb rc[k].col id) := by simp [wantF, List.all_append]
  rw [h2, both_bits hf hh hc dk rc[k].col h1.1, h3, want_one ma rc[k].col id hid', want_one mb rc[k].col id hid', rs_len_cs mc]
theorem fits_law {dk : Nm → Int} {dy : Nm → List Val} {cs1 cs2 : List Nm} {p1 p2 : List Nd} {r1 rc : List Rs} (m1 : r1.map (fun r => (r.col, r.may)) = cs1.map fun s => (s, mayTo dk dy s p1)) (mc : rc.map (fun r => (r.col, r.may)) = cs2.map fun s => (s, mayTo dk dy s p2))
    (k : Nat) (hk : k < rc.length) : ∀ r ∈ r1, r.col = rc[k].col → r.may.length = rc[k].may.length := fun r hr e => by
  rw [rs_may_len m1 r hr, rs_may_len mc rc[k] (List.getElem_mem hk), e]
theorem sz_le_size (n : Nd) : n.sz ≤ sizeF n := by
  have h : ∀ l : List Nd, (∀ k ∈ l, k.sz ≤ sizeF k) → (l.map Nd.sz).sum ≤ (l.map sizeF).sum := by
    intro l
    induction l with
    | nil => intro _; simp
    | cons x r ih =>
      intro hx
      have h1 := hx x (by simp)
      have h2 := ih fun k hk => hx k (by simp [hk])
      simp only [List.map_cons, List.sum_cons]
      omega
  rw [sz_eq, sizeF_eq]
  have := h n.kids fun k hk => sz_le_size k
  omega
termination_by SizeOf.sizeOf n
decreasing_by exact kid_lt hk
theorem RestR.keep {w w' : World} {base : Nat} {dk : Nm → Int} {dy : Nm → List Val} {f : Nd} {v : Value} {no ok : Bool} (h : RestR base dk dy f v no ok w) (hk : Keep w w') : RestR base dk dy f v no ok w' := by
  rcases h with h | ⟨h, ps, rs, h1, h2, h3, h4⟩
  · exact .inl h
  · exact .inr ⟨h, ps, rs, h1, h2, h3.keep hk, h4⟩
theorem RestR.no_ {w : World} {base : Nat} {dk : Nm → Int} {dy : Nm → List Val} {f : Nd} {v : Value} {no : Bool} (h : RestR base dk dy f v no false w) : partsOf f = none := by
  rcases h with h | ⟨h, _⟩
  · exact h.2.2.1
  · cases h
theorem RestR.yes {w : World} {base : Nat} {dk : Nm → Int} {dy : Nm → List Val} {f : Nd} {v : Value} {no : Bool} (h : RestR base dk dy f v no true w) : ∃ ps rs, partsOf f = some ps ∧ no = nothTo ps ∧ RL w base v rs ∧ rs.map (fun r => (r.col, r.may)) = (colsOf f).map fun s => (s, mayTo dk dy s ps) := by
  rcases h with h | ⟨_, h⟩
  · cases h.1
  · exact h
theorem Made.keep {w w' : World} {P R : Value} {xs0 xs1 xs2 : List Val} {ms : List Mc} (h : Made w P R xs0 xs1 xs2 ms) (hk : Keep w w') : Made w' P R xs0 xs1 xs2 ms :=
  ⟨h.len, by obtain ⟨A, c, e, hs⟩ := h.ptrs; exact ⟨A, c, e, hs.keep hk⟩, by obtain ⟨A, c, e, hs⟩ := h.rows; exact ⟨A, c, e, hs.keep hk⟩, fun j hj => ⟨(h.ok j hj).1.keep hk, (h.ok j hj).2⟩, h.fit⟩
end Go.Proofs.YthigflnfccajoaaGreat
