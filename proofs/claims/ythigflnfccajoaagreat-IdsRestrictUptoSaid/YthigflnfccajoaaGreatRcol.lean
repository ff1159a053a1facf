
/- Names put into rising ones, once each: plain. -/
import Derived.WalkKit
import Derived.Lib.Hide
import Derived.WalkSpells
import Derived.WalkLawsBesides
import Derived.BigQuiet
import Derived.Shelf.Abstract
import Derived.Test.YthigflnfccajoaaGreatIpl
import Derived.Test.YthigflnfccajoaaGreatOrd
import Derived.Test.YthigflnfccajoaaGreatRval
import Derived.Test.YthigflnfccajoaaGreatIrest
namespace Go.Proofs.YthigflnfccajoaaGreat
def ltNB (a b : Nm) : Bool := Op.bytesLess a b
def eqN (a b : Nm) : Bool := a == b
theorem eqN_iff (a b : Nm) : eqN a b = true ↔ a = b := by simp [eqN]
theorem ltNB_iff (a b : Nm) : ltNB a b = true ↔ LtN a b := by
  unfold ltNB LtN
  rw [Go.Proofs.bytesLess_eq, decide_eq_true_iff]
  constructor
  · intro h
    exact ⟨List.le_of_lt h, fun e => by subst e; exact absurd h (List.lt_irrefl a)⟩
  · rintro ⟨h1, h2⟩
    rcases Classical.em (a < b) with h | h
    · exact h
    · exact absurd (nm_anti h1 (List.not_lt.1 h)) h2
theorem LtN.irrefl (x : Nm) : ¬ LtN x x := fun h => h.2 rfl
theorem LtN.trans {x y z : Nm} (h : LtN x y) (k : LtN y z) : LtN x z := ⟨nm_trans h.1 k.1, fun e => by subst e; exact h.2 (nm_anti h.1 k.1)⟩
theorem LtN.tri (x y : Nm) : LtN x y ∨ x = y ∨ LtN y x := by
  by_cases e : x = y
  · exact .inr (.inl e)
  · rcases nm_total x y with h | h
    · exact .inl ⟨h, e⟩
    · exact .inr (.inr ⟨h, fun e' => e e'.symm⟩)
def stepN (v : Nm) (a : List Nm × Bool) (x : Nm) : List Nm × Bool := if !a.2 && ltNB v x then (a.1 ++ [v] ++ [x], true) else (a.1 ++ [x], a.2)
def putSN (v : Nm) (xs : List Nm) : List Nm × Bool := xs.foldl (stepN v) ([], false)
theorem putSN_succ (v : Nm) (xs : List Nm) (k : Nat) (h : k < xs.length) : putSN v (xs.take (k + 1)) = stepN v (putSN v (xs.take k)) xs[k] := by
  unfold putSN
  rw [List.take_succ_eq_append_getElem h, List.foldl_append]
  rfl
def putN (xs : List Nm) (v : Nm) : List Nm := if xs.any (fun x => eqN x v) then xs else if (putSN v xs).2 then (putSN v xs).1 else (putSN v xs).1 ++ [v]
def putAllN (xs : List Nm) : List Nm := xs.foldl putN []
theorem uniqueN : ∀ (l m : List Nm), l.Pairwise LtN → m.Pairwise LtN → (∀ x, x ∈ l ↔ x ∈ m) → l = m
  | [], [], _, _, _ => rfl
  | [], y :: m, _, _, h => by have := (h y).2 (by simp); cases this
  | x :: l, [], _, _, h => by have := (h x).1 (by simp); cases this
  | x :: l, y :: m, hl, hm, h => by
    have hl' := List.pairwise_cons.1 hl
    have hm' := List.pairwise_cons.1 hm
    have hxy : x = y := by
      rcases List.mem_cons.1 ((h x).1 (by simp)) with e | e
      · exact e
      · rcases List.mem_cons.1 ((h y).2 (by simp)) with e' | e'
        · exact e'.symm
        · exact absurd ((hm'.1 x e).trans (hl'.1 y e')) (LtN.irrefl y)
    subst hxy
    congr 1
    refine uniqueN l m hl'.2 hm'.2 fun z => ?_
    have hz := h z
    simp only [List.mem_cons] at hz
    constructor
    · intro hzl
      rcases hz.1 (.inr hzl) with e | e
      · subst e; exact absurd (hl'.1 z hzl) (LtN.irrefl z)
      · exact e
    · intro hzm
      rcases hz.2 (.inr hzm) with e | e
      · subst e; exact absurd (hm'.1 z hzm) (LtN.irrefl z)
      · exact e

/-- Put's fold on a rising list. -/
theorem putSN_false (v : Nm) : ∀ (xs : List Nm) (a : List Nm), (∀ x ∈ xs, ¬ LtN v x) → xs.foldl (stepN v) (a, false) = (a ++ xs, false)
  | [], a, _ => by simp
  | x :: r, a, h => by
    have h0 : ltNB v x = false := by
      cases hl : ltNB v x
      · rfl
      · exact absurd ((ltNB_iff v x).1 hl) (h x (by simp))
    rw [List.foldl_cons]
    simp only [stepN, h0, Bool.and_false, Bool.false_eq_true, if_false]
    rw [putSN_false v r _ fun x hx => h x (by simp [hx])]
    simp
theorem putSN_true (v : Nm) : ∀ (xs : List Nm) (a : List Nm), xs.foldl (stepN v) (a, true) = (a ++ xs, true)
  | [], a => by simp
  | x :: r, a => by
    rw [List.foldl_cons]
    simp only [stepN, Bool.not_true, Bool.false_and, Bool.false_eq_true, if_false]
    rw [putSN_true v r]
    simp
theorem any_eqN (xs : List Nm) (v : Nm) : (xs.any fun x => eqN x v) = true ↔ v ∈ xs := by
  rw [List.any_eq_true]
  constructor
  · rintro ⟨x, hx, he⟩; rw [(eqN_iff x v).1 he] at hx; exact hx
  · intro h; exact ⟨v, h, (eqN_iff v v).2 rfl⟩
theorem split_atN (v : Nm) : ∀ (xs : List Nm), xs.Pairwise LtN → v ∉ xs → ∃ a b, xs = a ++ b ∧ (∀ x ∈ a, LtN x v) ∧ (∀ x ∈ b, LtN v x)
  | [], _, _ => ⟨[], [], rfl, by simp, by simp⟩
  | x :: r, h, hv => by
    have h' := List.pairwise_cons.1 h
    rcases LtN.tri x v with t | t | t
    · obtain ⟨a, b, e, h1, h2⟩ := split_atN v r h'.2 (fun hm => hv (by simp [hm]))
      exact ⟨x :: a, b, by simp [e], fun y hy => by
        rcases List.mem_cons.1 hy with rfl | hy
        · exact t
        · exact h1 y hy, h2⟩
    · subst t; exact absurd (by simp) hv
    · exact ⟨[], x :: r, rfl, by simp, fun y hy => by
        rcases List.mem_cons.1 hy with rfl | hy
        · exact t
        · exact t.trans (h'.1 y hy)⟩
theorem putN_split (v : Nm) (a b : List Nm) (ha : ∀ x ∈ a, LtN x v) (hb : ∀ x ∈ b, LtN v x) : putN (a ++ b) v = a ++ v :: b := by
  have hv : v ∉ a ++ b := fun h => by
    rcases List.mem_append.1 h with h | h
    · exact LtN.irrefl v (ha v h)
    · exact LtN.irrefl v (hb v h)
  have h1 := putSN_false v a [] fun x hx h => LtN.irrefl v (h.trans (ha x hx))
  have hS : putSN v (a ++ b) = b.foldl (stepN v) (a, false) := by
    unfold putSN
    rw [List.foldl_append, h1]
    simp
  unfold putN
  rw [if_neg (fun h => hv ((any_eqN _ _).1 h)), hS]
  cases b with
  | nil => simp
  | cons y r =>
    have hy : ltNB v y = true := (ltNB_iff v y).2 (hb y (by simp))
    rw [List.foldl_cons]
    simp only [stepN, hy, Bool.not_false, Bool.and_true, if_true]
    rw [putSN_true v r]
    simp
theorem putN_sorted (xs : List Nm) (v : Nm) (h : xs.Pairwise LtN) : (putN xs v).Pairwise LtN ∧ ∀ x, x ∈ putN xs v ↔ x ∈ xs ∨ x = v := by
  by_cases hv : v ∈ xs
  · have : putN xs v = xs := by unfold putN; rw [if_pos ((any_eqN _ _).2 hv)]
    rw [this]
    refine ⟨h, fun x => ⟨.inl, fun hx => ?_⟩⟩
    rcases hx with hx | rfl
    · exact hx
    · exact hv
  · obtain ⟨a, b, rfl, ha, hb⟩ := split_atN v xs h hv
    rw [putN_split v a b ha hb]
    refine ⟨?_, fun x => ?_⟩
    · rw [List.pairwise_append] at h ⊢
      refine ⟨h.1, List.pairwise_cons.2 ⟨hb, h.2.1⟩, fun x hx y hy => ?_⟩
      rcases List.mem_cons.1 hy with rfl | hy
      · exact ha x hx
      · exact h.2.2 x hx y hy
    · simp only [List.mem_append, List.mem_cons]
      constructor
      · rintro (h | rfl | h)
        · exact .inl (.inl h)
        · exact .inr rfl
        · exact .inl (.inr h)
      · rintro ((h | h) | rfl)
        · exact .inl h
        · exact .inr (.inr h)
        · exact .inr (.inl rfl)

theorem foldN_mem (xs a : List Nm) (ha : a.Pairwise LtN) : (xs.foldl putN a).Pairwise LtN ∧ ∀ x, x ∈ xs.foldl putN a ↔ x ∈ a ∨ x ∈ xs := by
  induction xs generalizing a with
  | nil => exact ⟨ha, fun x => by simp⟩
  | cons y r ih =>
    have h1 := putN_sorted a y ha
    have h2 := ih (putN a y) h1.1
    refine ⟨h2.1, fun x => ?_⟩
    rw [List.foldl_cons, h2.2 x, h1.2 x, List.mem_cons]
    constructor
    · rintro ((h | h) | h)
      · exact .inl h
      · exact .inr (.inl h)
      · exact .inr (.inr h)
    · rintro (h | h | h)
      · exact .inl (.inl h)
      · exact .inl (.inr h)
      · exact .inr h
/-- The names of all kids, put one by one, are a filter's columns. -/
theorem cols_put (n : Nd) (h : n.op ≠ 4) : (n.kids.flatMap colsOf).foldl putN [] = colsOf n := by
  have h1 := foldN_mem (n.kids.flatMap colsOf) [] List.Pairwise.nil
  refine uniqueN _ _ h1.1 (cols_sorted n) fun x => ?_
  rw [h1.2 x, cols_mem n x, if_neg h]
  simp
theorem putN_len (xs : List Nm) (v : Nm) : (putN xs v).length ≤ xs.length + 1 := by
  have hs : ∀ (ys : List Nm) (a : List Nm × Bool), (ys.foldl (stepN v) a).1.length + (if (ys.foldl (stepN v) a).2 then 0 else 1) = a.1.length + ys.length + (if a.2 then 0 else 1) := by
    intro ys
    induction ys with
    | nil => intro a; rfl
    | cons y r ih =>
      intro a
      rw [List.foldl_cons, ih]
      unfold stepN
      split <;> rename_i hc <;> simp at hc ⊢
      · simp [hc.1]; omega
      · omega
  have h1 := hs xs ([], false)
  unfold putN
  unfold putSN
  split
  · omega
  · split <;> rename_i hc <;> simp [hc] at h1 ⊢ <;> omega
theorem foldN_len (xs a : List Nm) : (xs.foldl putN a).length ≤ a.length + xs.length := by
  induction xs generalizing a with
  | nil => simp
  | cons y r ih => rw [List.foldl_cons]; have := ih (putN a y); have := putN_len a y; simp; omega
end Go.Proofs.YthigflnfccajoaaGreat
/- The document's Columns of a filter. -/
namespace Go.Proofs.YthigflnfccajoaaGreat
open Go.RowKit Go.Zone Go.Shelf Go.Sort
attribute [local go_sem] Zone.zone Zone.stepZ Zone.fill Zone.lookFs Zone.goes Zone.goesUpon Zone.dropFs Zone.cell_gro Zone.frozen_gro Zone.size_gro Zone.lt_add Zone.drew_gro Zone.tape_gro Zone.keep_refl
attribute [local go_sem] Zone.lt_add2 Zone.lt_add3 Zone.lt_add4 Zone.lt_add5 Zone.lt_add6 Zone.lt_add7 Zone.lt_add8 Zone.lt_add9 Zone.lt_add10 Zone.lt_add11 Zone.lt_add12
theorem enc_out (s : Nm) : ∃ b : ByteArray, encStr s = .string b ∧ b.toList = s := ⟨⟨s.toArray⟩, rfl, by rw [Lib.toList_data]⟩
theorem nm_at (b : ByteArray) {w : World} {g : Nat} (h0 : w.cell? ⟨g, 0, none⟩ = some (.string b)) : ∀ j u, (nmV b.toList)[j]? = some u → w.cell? ⟨g, j, none⟩ = some u
  | 0, u, hu => by
    have : encStr b.toList = .string b := by simp [encStr, Lib.toList_data]
    simp only [nmV, this, List.getElem?_cons_zero, Option.some.injEq] at hu
    rw [← hu]; exact h0
theorem bl_of {x s : ByteArray} {b : Bool} (he : (x.toList == s.toList) = false) (h : Op.bytesLess x.toList s.toList = b) : Op.bytesLess s.toList x.toList = !b := by
  cases b
  · cases h2 : Op.bytesLess s.toList x.toList
    · have := bl_total _ _ h h2
      simp [this] at he
    · rfl
  · cases h2 : Op.bytesLess s.toList x.toList
    · rfl
    · have := bl_trans _ _ _ h h2
      rw [bl_irrefl] at this
      cases this
set_option maxRecDepth 100000 in
set_option maxHeartbeats 2000000 in
theorem putn_any (A : Option Addr) (c : Nat) (xs : List Nm) (s : ByteArray) (w : World) (h : Sl w 1 nmV A c xs) (hl : xs.length ≤ 2000000) :
    Calls Tryz.prog 39 #[.slice A xs.length c, .string s] w fun e w' => ∃ A' c', e = .returned (.slice A' (putN xs s.toList).length c') ∧ Sl w' 1 nmV A' c' (putN xs s.toList) ∧ Keep w w' := by
  have HS := Lib.hid h
  clear h
  go_enter Tryz.func39, Tryz.ntmps39
  go_wp2
  go_loopw [5, 6, 7] (fun vo d i wr => ∃ (k : Nat) (o : List Nm) (b : Bool), k ≤ xs.length ∧ i = .int .i64 k ∧ d = .bool b ∧ Hid (putSN s.toList (xs.take k) = (o, b)) ∧ Hid (OwnN wr w.heap.size vo o) ∧ Hid (Keep w wr) ∧
    Hid (∀ j, (h : j < xs.length) → j < k → eqN xs[j] s.toList = false) ∧ o.length ≤ 2 * k) (fun _ _ i _ => xs.length - (intOf i).toNat)
  case atStart => exact ⟨0, [], false, Nat.zero_le _, rfl, rfl, rfl, Own.nil_ _ _ _ _ _, Keep.refl _, fun j _ hj => absurd hj (Nat.not_lt_zero _), by simp⟩
  case round =>
    obtain ⟨k, o, b, hk, rfl, rfl, HF, HO, HK, HR, hol⟩ := hrel
    by_cases hlt : k < xs.length
    · obtain ⟨bx, off, rfl, hbx, c0⟩ := sl_nm (HS.out.keep HK.out) k hlt
      obtain ⟨xb, hxe, hxl⟩ := enc_out xs[k]
      rw [hxe] at c0
      cases he : (xb.toList == s.toList)
      · have HEQ := Lib.hid (show eqN xs[k] s.toList = false by rw [← hxl]; exact he)
        have hsucc := putSN_succ s.toList xs k hlt
        rw [HF.out, ← hxl] at hsucc
        have H2 := Lib.hid hsucc
        have HXE := Lib.hid hxe
        clear hsucc hxl hxe
        have HRN : Hid (∀ j, (h : j < xs.length) → j < k + 1 → eqN xs[j] s.toList = false) := fun j hj hjk => by
          by_cases e : j = k
          · subst e; exact HEQ.out
          · exact HR.out j hj (by omega)
        clear HR HEQ
        cases b
        · cases hless : Op.bytesLess xb.toList s.toList
          rotate_left
          · go_wp2_with (at_builtin; refine Zone.hold ?_)
            refine Zone.unhold ?_
            have HO1 := HO.out.keep (Keep.alloc (Keep.refl _) (.cells #[.string xb] 9))
            refine wpList_app elt_n nm_len nm_one rfl (.tmp 35) (.tmp 40) rfl (ys := [xb.toList]) HO1 rfl rfl (Zone.sl_one _ (by omega) (by omega) (nm_at xb (by simp [go_sem]))) (by simp; omega) (by have := HK.out.size; simp; omega) ?_
            intro v' w1 hown1 hg1 _
            have ⟨a1, a2, a3⟩ := HO1.after hg1 (HK.out.trans (by repeat (first | exact Keep.refl _ | apply Keep.alloc | apply Keep.gro | apply Keep.drew | apply Keep.drewN))) (Nat.le_refl _)
            have HP := Lib.hid (show putSN s.toList (xs.take (k + 1)) = (o ++ [xb.toList], false) by rw [H2.out]; simp [stepN, ltNB, bl_of he hless])
            have HW := Lib.hid hown1
            have HA := Lib.hid a1
            clear H2 hown1 hg1 HO1 a1 a2 a3 HO HK HF he hless
            go_wp2
            go_roundw
            case rel => exact ⟨k + 1, o ++ [xb.toList], false, by omega, by go_num, rfl, HP.out, HW.out, HA.out, HRN.out, by simp; omega⟩
            case measure => simp [intOf]; omega
          · go_wp2_with (at_builtin; refine Zone.hold ?_)
            refine Zone.unhold ?_
            have HO1 := HO.out.keep (Keep.alloc (Keep.refl _) (.cells #[.string s] 9))
            refine wpList_app elt_n nm_len nm_one rfl (.tmp 31) (.tmp 33) rfl (ys := [s.toList]) HO1 rfl rfl (Zone.sl_one _ (by omega) (by omega) (nm_at s (by simp [go_sem]))) (by simp; omega) (by have := HK.out.size; simp; omega) ?_
            intro v1 w1 hown1 hg1 _
            have ⟨a1, a2, a3⟩ := HO1.after hg1 (HK.out.trans (by repeat (first | exact Keep.refl _ | apply Keep.alloc | apply Keep.gro | apply Keep.drew | apply Keep.drewN))) (Nat.le_refl _)
            have HP := Lib.hid (show putSN s.toList (xs.take (k + 1)) = (o ++ [s.toList] ++ [xb.toList], true) by rw [H2.out]; simp [stepN, ltNB, bl_of he hless])
            have HW := Lib.hid hown1
            have HA := Lib.hid a1
            have hz1 := a2
            clear H2 hown1 hg1 HO1 a1 a2 a3 HO HK HF he hless c0 hbx
            obtain ⟨bx', off', hA', hbx', c0⟩ := sl_nm (HS.out.keep HA.out) k hlt
            cases hA'
            rw [HXE.out] at c0
            go_wp2_with (at_builtin; refine Zone.hold ?_)
            refine Zone.unhold ?_
            have HO1 := HW.out.keep (Keep.alloc (Keep.refl _) (.cells #[.string xb] 9))
            refine wpList_app elt_n nm_len nm_one rfl (.tmp 35) (.tmp 40) rfl (ys := [xb.toList]) HO1 rfl rfl (Zone.sl_one _ (by omega) (by omega) (nm_at xb (by simp [go_sem]))) (by simp; omega) (by have := HA.out.size; simp; omega) ?_
            intro v' w2 hown1 hg1 _
            have ⟨a1, a2, a3⟩ := HO1.after hg1 (HA.out.trans (by repeat (first | exact Keep.refl _ | apply Keep.alloc | apply Keep.gro | apply Keep.drew | apply Keep.drewN))) (Nat.le_refl _)
            have HW2 := Lib.hid hown1
            have HA2 := Lib.hid a1
            clear hown1 hg1 HO1 a1 a2 a3 HA HW
            go_wp2
            go_roundw
            case rel => exact ⟨k + 1, o ++ [s.toList] ++ [xb.toList], true, by omega, by go_num, rfl, HP.out, HW2.out, HA2.out, HRN.out, by simp; omega⟩
            case measure => simp [intOf]; omega
        · go_wp2_with (at_builtin; refine Zone.hold ?_)
          refine Zone.unhold ?_
          have HO1 := HO.out.keep (Keep.alloc (Keep.refl _) (.cells #[.string xb] 9))
          refine wpList_app elt_n nm_len nm_one rfl (.tmp 35) (.tmp 40) rfl (ys := [xb.toList]) HO1 rfl rfl (Zone.sl_one _ (by omega) (by omega) (nm_at xb (by simp [go_sem]))) (by simp; omega) (by have := HK.out.size; simp; omega) ?_
          intro v' w1 hown1 hg1 _
          have ⟨a1, a2, a3⟩ := HO1.after hg1 (HK.out.trans (by repeat (first | exact Keep.refl _ | apply Keep.alloc | apply Keep.gro | apply Keep.drew | apply Keep.drewN))) (Nat.le_refl _)
          have HP := Lib.hid (show putSN s.toList (xs.take (k + 1)) = (o ++ [xb.toList], true) by rw [H2.out]; simp [stepN])
          have HW := Lib.hid hown1
          have HA := Lib.hid a1
          clear H2 hown1 hg1 HO1 a1 a2 a3 HO HK HF he
          go_wp2
          go_roundw
          case rel => exact ⟨k + 1, o ++ [xb.toList], true, by omega, by go_num, rfl, HP.out, HW.out, HA.out, HRN.out, by simp; omega⟩
          case measure => simp [intOf]; omega
      · have hp : putN xs s.toList = xs := by
          unfold putN
          rw [if_pos (List.any_eq_true.2 ⟨xs[k], List.getElem_mem _, by rw [← hxl]; exact he⟩)]
        have HP := Lib.hid hp
        clear hp hxe hxl
        go_wp2
        go_ret
        exact ⟨some ⟨bx, off, none⟩, c, by rw [HP.out]; rfl, by rw [HP.out]; exact HS.out.keep HK.out, HK.out⟩
    · have hkl : k = xs.length := by omega
      have HF' : Hid (putSN s.toList xs = (o, b)) := by
        have := HF.out
        rw [hkl, List.take_length] at this
        exact this
      have HN : Hid (xs.any (fun x => eqN x s.toList) = false) := by
        show _ = _
        rw [List.any_eq_false]
        intro x hx
        obtain ⟨j, hj, rfl⟩ := List.getElem_of_mem hx
        simp [HR.out j hj (by omega)]
      clear HF hkl HR
      cases b
      · have HPX := Lib.hid (show putN xs s.toList = o ++ [s.toList] by unfold putN; rw [HN.out, HF'.out]; simp)
        go_wp2_with (at_builtin; refine Zone.hold ?_)
        refine Zone.unhold ?_
        have HO1 := HO.out.keep (Keep.alloc (Keep.refl _) (.cells #[.string s] 9))
        refine wpList_app elt_n nm_len nm_one rfl (.tmp 44) (.tmp 46) rfl (ys := [s.toList]) HO1 rfl rfl (Zone.sl_one _ (by omega) (by omega) (nm_at s (by simp [go_sem]))) (by simp; omega) (by have := HK.out.size; simp; omega) ?_
        intro v' w1 hown1 hg1 _
        have ⟨a1, a2, a3⟩ := HO1.after hg1 (HK.out.trans (by repeat (first | exact Keep.refl _ | apply Keep.alloc | apply Keep.gro | apply Keep.drew | apply Keep.drewN))) (Nat.le_refl _)
        obtain ⟨A', c', rfl, hsl⟩ := hown1.sl nm_len (by simp; omega)
        have HSL := Lib.hid hsl
        have HA := Lib.hid a1
        clear hown1 hg1 HO1 a1 a2 a3 hsl HO HK
        rw [← HPX.out] at HSL ⊢
        go_wp2
        go_ret
        exact ⟨A', c', rfl, HSL.out, HA.out⟩
      · have HPX := Lib.hid (show putN xs s.toList = o by unfold putN; rw [HN.out, HF'.out]; simp)
        obtain ⟨A', c', rfl, hsl⟩ := HO.out.sl nm_len (by omega)
        have HSL := Lib.hid hsl
        clear hsl HO
        rw [← HPX.out] at HSL ⊢
        go_wp2
        go_ret
        exact ⟨A', c', rfl, HSL.out, HK.out⟩
set_option maxRecDepth 100000 in
set_option maxHeartbeats 4000000 in
theorem rcolumns_any (w0 : World) (b : Nat) (n : Nd) (hn : Nd.In w0 b n) : ∀ (w : World), Keep w0 w → n.sz ≤ 1000000 →
    Calls Tryz.prog 14 #[n.v] w fun e w' => ∃ A c, e = .returned (.slice A (colsOf n).length c) ∧ Sl w' 1 nmV A c (colsOf n) ∧ Keep w w' := by
  induction hn with
  | mk n hk hv hA hB hi ih =>
  intro w hK0 hsz
  have HS := Lib.hid (hk.keep hK0)
  have hkl := hk.len
  have hvl := hv.len
  have HLK := Lib.hid (fun k hk => cols_len k : ∀ k ∈ n.kids, (colsOf k).length ≤ k.sz)
  have HZ := Lib.hid (show (n.kids.map Nd.sz).sum ≤ 1000000 by have := sz_eq n; omega)
  have IH := Lib.hid (show ∀ k ∈ n.kids, ∀ W, Keep w W → Calls Tryz.prog 14 #[k.v] W fun e w' => ∃ A c, e = .returned (.slice A (colsOf k).length c) ∧ Sl w' 1 nmV A c (colsOf k) ∧ Keep W w' from
    fun k hk W hW => ih k hk W (hK0.trans hW) (by have := sz_mem n.kids k hk; have := HZ.out; omega))
  have HPUT := Lib.hid (cols_put n)
  have HEQ := Lib.hid (colsOf_eq n)
  clear hk hv hA hB hi ih hK0 hsz
  obtain ⟨op, KA, kc, kids, col, cmp, VB, vd, vals⟩ := n
  simp only [Nd.v] at hkl hvl HS IH HZ HLK HPUT HEQ ⊢
  obtain ⟨cs, hcs⟩ : ∃ cs, colsOf ⟨op, KA, kc, kids, col, cmp, VB, vd, vals⟩ = cs := ⟨_, rfl⟩
  rw [hcs] at HPUT HEQ ⊢
  clear hcs
  by_cases h4 : op = 4
  · subst h4
    have hcs := HEQ.out
    rw [if_pos rfl] at hcs
    subst hcs
    clear HEQ HPUT
    go_enter Tryz.func14, Tryz.ntmps14
    go_wp2
    go_ret
    refine ⟨some ⟨w.heap.size + 1, 0, none⟩, 1, rfl, ?_, (by repeat (first | exact Keep.refl _ | apply Keep.alloc | apply Keep.gro | apply Keep.drew | apply Keep.drewN))⟩
    refine Zone.sl_one _ (by omega) (by omega) ?_
    rw [← Lib.toList_data]
    exact nm_at col (by simp [go_sem])
  · have d4 : (op == 4) = false := by simpa using h4
    have HP := Lib.hid (HPUT.out h4)
    clear h4 HEQ HPUT
    go_enter Tryz.func14, Tryz.ntmps14
    go_wp2
    go_loopw [3, 4, 5, 6] (fun v i _ _ wr => ∃ (k : Nat) (A : Option Addr) (c : Nat) (o : List Nm), k ≤ kids.length ∧ i = .int .i64 k ∧ v = .slice A o.length c ∧ Hid (o = ((kids.take k).flatMap colsOf).foldl putN []) ∧ Hid (Sl wr 1 nmV A c o) ∧ Hid (Keep w wr) ∧ wr.cell? ⟨w.heap.size, 1, none⟩ = some (.slice KA kids.length kc)) (fun _ i _ _ _ => kids.length - (intOf i).toNat)
    case atStart => exact ⟨0, none, 0, [], Nat.zero_le _, rfl, rfl, rfl, Sl.nil_ _ (by omega), (by repeat (first | exact Keep.refl _ | apply Keep.alloc | apply Keep.gro | apply Keep.drew | apply Keep.drewN)), by simp [go_sem]⟩
    case round =>
      obtain ⟨k, A, c, o, hk, rfl, rfl, HO, HL, HK, x1⟩ := hrel
      have hz := World.block_lt_of_cell? _ _ x1
      simp only at hz
      by_cases hlt : k < kids.length
      · obtain ⟨g, off, rfl, hg, h0, h1, h2, h3, h4⟩ := sl_nd (HS.out.keep HK.out) k hlt
        have HT := Lib.hid (cols_take kids k hlt)
        have hol : o.length ≤ 1000000 := by
          have h5 := HO.out
          have h6 := foldN_len ((kids.take k).flatMap colsOf) []
          have h7 := cols_flat (kids.take k) (fun x hx => HLK.out x (List.mem_of_mem_take hx))
          have h8 := sz_take kids k
          have h9 := HZ.out
          rw [← h5, List.length_nil] at h6
          omega
        have HC := Lib.hid (IH.out kids[k] (List.getElem_mem hlt))
        have hcl : (colsOf kids[k]).length ≤ 1000000 := by have := HLK.out kids[k] (List.getElem_mem hlt); have := sz_mem kids kids[k] (List.getElem_mem hlt); have := HZ.out; omega
        obtain ⟨cl, hcle⟩ : ∃ cl, colsOf kids[k] = cl := ⟨_, rfl⟩
        rw [hcle] at HC HT hcl
        clear hcle
        go_wp2_with (go_at_call 14; refine Zone.hold ?_)
        refine Zone.unhold ?_
        refine (HC.out _ (HK.out.trans (by repeat (first | exact Keep.refl _ | apply Keep.alloc | apply Keep.gro | apply Keep.drew | apply Keep.drewN)))).mono ?_
        rintro e w2 ⟨LA, Lc, rfl, hl2, hk2⟩
        obtain ⟨p, rfl⟩ := gro_of_below _ hk2
        have HL2 := Lib.hid hl2
        have HK2 := Lib.hid (HK.out.trans hk2)
        have HLB := Lib.hid (HL.out.keep hk2)
        have hx1 := (hk2.cell (p := ⟨w.heap.size, 1, none⟩) hz).trans x1
        have hz2 : w.heap.size < (wr.gro p).heap.size := Nat.lt_of_lt_of_le hz hk2.size
        generalize wr.gro p = w2 at hl2 hk2 HL2 HK2 HLB hx1 hz2 ⊢
        clear hl2 hk2 x1 hz h0 h1 h2 h3 h4 hg HL HK HC
        have hgb : g < w2.heap.size := by
          have := (sl_nd (HS.out.keep HK2.out) k hlt)
          obtain ⟨g', off', e, hg', _⟩ := this
          cases e; exact hg'
        go_wp2
        go_loopw [3, 6] (fun v i wq => ∃ (j : Nat) (A : Option Addr) (c : Nat) (o2 : List Nm), j ≤ cl.length ∧ i = .int .i64 j ∧ v = .slice A o2.length c ∧ Hid (o2 = (cl.take j).foldl putN o) ∧ Hid (Sl wq 1 nmV A c o2) ∧ Hid (Keep w2 wq)) (fun _ i _ => cl.length - (intOf i).toNat)
        case atStart => exact ⟨0, A, c, o, Nat.zero_le _, rfl, rfl, rfl, HLB.out, Keep.refl _⟩
        case round =>
          obtain ⟨j, A2, c2, o2, hj, rfl, rfl, HO2, HS2, HKQ⟩ := hrel
          by_cases hjl : j < cl.length
          · obtain ⟨lb, lo, rfl, hlb, l0⟩ := sl_nm (HL2.out.keep HKQ.out) j hjl
            obtain ⟨xb, hxe, hxl⟩ := enc_out cl[j]
            rw [hxe] at l0
            have ho2 : o2.length ≤ 2000000 := by
              have h5 := HO2.out
              have h6 := foldN_len (cl.take j) o
              rw [← h5, List.length_take] at h6
              omega
            have HPU := Lib.hid (fun W (hW : Keep wr W) => putn_any A2 c2 o2 xb W (HS2.out.keep hW) ho2)
            have HNX := Lib.hid (show putN o2 xb.toList = (cl.take (j + 1)).foldl putN o by rw [List.take_succ_eq_append_getElem hjl, List.foldl_append, ← HO2.out, hxl]; rfl)
            clear hxe hxl
            go_wp2_with (go_at_call 39; refine Zone.hold ?_)
            refine Zone.unhold ?_
            refine (HPU.out _ (Keep.refl _)).mono ?_
            rintro e w3 ⟨A3, c3, rfl, hs3, hk3⟩
            have HS3 := Lib.hid hs3
            have HK3 := Lib.hid (HKQ.out.trans hk3)
            clear hs3 hk3 HPU
            go_wp2
            go_roundw
            case rel => exact ⟨j + 1, A3, c3, _, by omega, by go_num, rfl, HNX.out, HS3.out, HK3.out⟩
            case measure => simp [intOf]; omega
          · have : j = cl.length := by omega
            subst this
            have HNX := Lib.hid (show o2 = ((kids.take (k + 1)).flatMap colsOf).foldl putN [] by rw [HT.out, List.foldl_append, ← HO.out, HO2.out, List.take_length])
            have hx2 := (HKQ.out.cell (p := ⟨w.heap.size, 1, none⟩) hz2).trans hx1
            go_wp2
            go_roundw
            case rel => exact ⟨k + 1, A2, c2, o2, by omega, by go_num, rfl, HNX.out, HS2.out, HK2.out.trans HKQ.out, hx2⟩
            case measure => simp [intOf]; omega
      · have : k = kids.length := by omega
        subst this
        have hoe := HO.out
        rw [List.take_length, HP.out] at hoe
        subst hoe
        clear HO HP
        go_wp2
        go_ret
        exact ⟨A, c, rfl, HL.out, HK.out⟩
end Go.Proofs.YthigflnfccajoaaGreat
