
/- ids.Restrict: what it computes; how restrictions lie in memory; the search for a column's. -/
import Derived.WalkKit
import Derived.Lib.Hide
import Derived.WalkSpells
import Derived.WalkLawsBesides
import Derived.BigQuiet
import Derived.Shelf.Abstract
import Derived.Test.YthigflnfccajoaaGreatIpl
namespace Go.Proofs.YthigflnfccajoaaGreat
open Go.RowKit Go.Zone Go.Shelf
attribute [local go_sem] Zone.zone Zone.stepZ Zone.fill Zone.lookFs Zone.goes Zone.goesUpon Zone.dropFs Zone.cell_gro Zone.frozen_gro Zone.size_gro Zone.lt_add Zone.drew_gro Zone.tape_gro Zone.keep_refl
attribute [local go_sem] Zone.lt_add2 Zone.lt_add3 Zone.lt_add4 Zone.lt_add5 Zone.lt_add6 Zone.lt_add7 Zone.lt_add8 Zone.lt_add9 Zone.lt_add10 Zone.lt_add11 Zone.lt_add12
attribute [local go_sem] Zone.calm_normal
/-- A restriction, its flags in block g. -/
structure Rs where
  col : Nm
  g : Nat
  may : List Bool
def rsV (r : Rs) : List Value := [encStr r.col, .slice (some ⟨r.g, 0, none⟩) r.may.length r.may.length]
@[reducible] def Rs.v (r : Rs) : Value := .agg #[encStr r.col, .slice (some ⟨r.g, 0, none⟩) r.may.length r.may.length]
instance : Inhabited Rs := ⟨⟨[], 0, []⟩⟩
theorem rs_len (x : Rs) : (rsV x).length = 2 := rfl
theorem rs_one (x : Rs) : ∀ u ∈ rsV x, u.oneCell' = true := by simp [rsV, Value.oneCell']
theorem info_rs : (Tryz.prog.info? 62).map (fun i => (i.zero, i.size, i.bytes)) = some (some (.agg #[.string ⟨#[]⟩, .slice none 0 0]), 2, 40) := by kernel_rfl
theorem elt_rs : Elt Tryz.prog 38 62 2 40 := by
  obtain ⟨i, hi, h1, h2, h3⟩ := info_partsK info_rs
  exact ⟨i, _, Tryz.underlying38, hi, h1, h2, h3, rfl, by decide, by decide⟩
abbrev OwnR (w : World) (base : Nat) (v : Value) (xs : List Rs) : Prop := Zone.Own w base 62 2 rsV v xs
/-- Restrictions of the call's own. -/
structure RL (w : World) (base : Nat) (v : Value) (rs : List Rs) : Prop where
  own : OwnR w base v rs
  may : ∀ r ∈ rs, OwnF w base (.slice (some ⟨r.g, 0, none⟩) r.may.length r.may.length) r.may
  apart : rs.Pairwise fun r s => r.g ≠ s.g
theorem RL.keep {w w' : World} {base : Nat} {v : Value} {rs : List Rs} (h : RL w base v rs) (hk : Keep w w') : RL w' base v rs := ⟨h.own.keep hk, fun r hr => (h.may r hr).keep hk, h.apart⟩
theorem RL.sl {w : World} {base n c : Nat} {A : Option Addr} {rs : List Rs} (h : RL w base (.slice A n c) rs) (hn : n = rs.length) (hl : rs.length ≤ 140737488355328) : Sl w 2 rsV A c rs := by
  subst hn
  obtain ⟨A', c', e, hs⟩ := h.own.sl rs_len hl
  injection e with e1 _ e2
  subst e1; subst e2
  exact hs
theorem own_apartR {w : World} {b1 b2 : Nat} {v v2 : Value} {ss : List Rs} {xs : List Bool} (h : OwnR w b1 v ss) (h2 : OwnF w b2 v2 xs) : ∀ j, v.ownBlock = some j → v2.ownBlock ≠ some j := by
  intro j hj e
  rcases h.2 with ⟨rfl, _⟩ | ⟨g, cap, cur, rfl, _, hg, _⟩
  · cases hj
  rcases h2.2 with ⟨rfl, _⟩ | ⟨g2, cap2, cur2, rfl, _, hg2, _⟩
  · cases e
  simp only [Value.ownBlock, Option.map_some, Option.some.injEq] at hj e
  subst hj; subst e
  rw [hg] at hg2
  injection hg2 with hg2
  injection hg2 with _ h3 _
  exact absurd h3 (by decide)
theorem own_apartR' {w : World} {b1 b2 : Nat} {v v2 : Value} {ss : List Rs} {xs : List Bool} (h : OwnR w b1 v ss) (h2 : OwnF w b2 v2 xs) : ∀ j, v2.ownBlock = some j → v.ownBlock ≠ some j := fun j h3 h4 => own_apartR h h2 j h4 h3
theorem RL.set {w : World} {base : Nat} {v : Value} {rs : List Rs} (h : RL w base v rs) (i : Nat) (hi : i < rs.length) (j : Nat) (b : Bool) : RL (w.setCell ⟨rs[i].g, j, none⟩ (.bool b)) base v (rs.set i ⟨rs[i].col, rs[i].g, rs[i].may.set j b⟩) := by
  have hg := By.set w ⟨rs[i].g, j, none⟩ (.bool b)
  have hm := h.may rs[i] (List.getElem_mem hi)
  have hge : ∀ (k : Nat) (hk : k < (rs.set i ⟨rs[i].col, rs[i].g, rs[i].may.set j b⟩).length), (rs.set i ⟨rs[i].col, rs[i].g, rs[i].may.set j b⟩)[k].g = (rs[k]'(by simpa using hk)).g := fun k hk => by
    rw [List.getElem_set]
    split
    · rename_i e; subst e; rfl
    · rfl
  refine ⟨?_, fun r hr => ?_, ?_⟩
  · have e : (rs.set i ⟨rs[i].col, rs[i].g, rs[i].may.set j b⟩).flatMap rsV = rs.flatMap rsV := by
      have e1 : ∀ (l : List Rs) (i : Nat) (hi : i < l.length) (x : Rs), rsV x = rsV l[i] → (l.set i x).flatMap rsV = l.flatMap rsV := by
        intro l
        induction l with
        | nil => intro i hi; exact absurd hi (Nat.not_lt_zero _)
        | cons y r ih =>
          intro i hi x hx
          cases i with
          | zero => simp only [List.set_cons_zero, List.flatMap_cons]; rw [hx]; rfl
          | succ i => simp only [List.set_cons_succ, List.flatMap_cons]; rw [ih i (by simpa using hi) x hx]
      exact e1 rs i hi _ (by simp [rsV])
    have h1 := h.own.grown hg (fun k e hk => own_apartR h.own hm k hk (by rw [← e]; rfl))
    unfold OwnR Zone.Own at h1 ⊢
    rw [e, List.length_set]
    exact h1
  · obtain ⟨k, hk, rfl⟩ := List.getElem_of_mem hr
    have hk' : k < rs.length := by simpa using hk
    by_cases e : i = k
    · subst e
      rw [List.getElem_set_self]
      have := own_setF hm rfl j b
      simpa using this
    · rw [List.getElem_set_ne e]
      refine (h.may rs[k] (List.getElem_mem hk')).grown hg fun x ex hx => ?_
      have h2 : rs[k].g = x := by simpa [Value.ownBlock] using hx
      have h3 : rs[i].g = x := by simpa using ex
      have hp := List.pairwise_iff_getElem.1 h.apart
      rcases Nat.lt_or_gt_of_ne e with e' | e'
      · exact hp i k hi hk' e' (h3.trans h2.symm)
      · exact hp k i hk' hi e' (h2.trans h3.symm)
  · rw [List.pairwise_iff_getElem]
    intro a c ha hc hac
    rw [hge a ha, hge c hc]
    exact List.pairwise_iff_getElem.1 h.apart a c _ _ hac
theorem RL.base_mono {w : World} {b1 b2 : Nat} {v : Value} {rs : List Rs} (h : RL w b1 v rs) (hb : b2 ≤ b1) : RL w b2 v rs := ⟨h.own.base_mono hb, fun r hr => (h.may r hr).base_mono hb, h.apart⟩
theorem sl_rs {w : World} {c : Nat} {A : Option Addr} {xs : List Rs} (h : Sl w 2 rsV A c xs) (i : Nat) (hi : i < xs.length) : ∃ b off, A = some ⟨b, off, none⟩ ∧ b < w.heap.size ∧ w.cell? ⟨b, off + i * 2, none⟩ = some (encStr xs[i].col) ∧ w.cell? ⟨b, off + i * 2 + 1, none⟩ = some (.slice (some ⟨xs[i].g, 0, none⟩) xs[i].may.length xs[i].may.length) := by
  obtain ⟨b, off, hA, hc⟩ := h.at_ i hi
  have h0 := hc 0 _ rfl
  exact ⟨b, off, hA, World.block_lt_of_cell? w _ h0, h0, hc 1 _ rfl⟩
theorem RL.at_set {w : World} {base n c b off i : Nat} {rs : List Rs} {m : List Bool} (hi : i < rs.length) (h : RL w base (.slice (some ⟨b, off, none⟩) n c) (rs.set i ⟨rs[i].col, rs[i].g, m⟩)) (hn : n = rs.length) (hl : rs.length ≤ 1000000) (j : Nat) (hj : j < m.length) :
    b < w.heap.size ∧ w.cell? ⟨b, off + i * 2 + 1, none⟩ = some (.slice (some ⟨rs[i].g, 0, none⟩) m.length m.length) ∧ w.cell? ⟨rs[i].g, j, none⟩ = some (.bool m[j]) ∧ w.frozen? ⟨rs[i].g, j, none⟩ = false ∧ rs[i].g < w.heap.size ∧ base ≤ rs[i].g ∧
      ∀ b', RL (w.setCell ⟨rs[i].g, j, none⟩ (.bool b')) base (.slice (some ⟨b, off, none⟩) n c) (rs.set i ⟨rs[i].col, rs[i].g, m.set j b'⟩) := by
  have hi' : i < (rs.set i ⟨rs[i].col, rs[i].g, m⟩).length := by simpa using hi
  have he : (rs.set i ⟨rs[i].col, rs[i].g, m⟩)[i] = ⟨rs[i].col, rs[i].g, m⟩ := by simp
  obtain ⟨b1, off1, e, hb, _, h1⟩ := sl_rs (h.sl (by simpa using hn) (by simp; omega)) i hi'
  rw [he] at h1
  injection e with e
  injection e with e1 e2
  subst e1; subst e2
  have hm := h.may _ (List.getElem_mem hi')
  rw [he] at hm
  obtain ⟨c0, c1, c2, c3⟩ := own_cellF hm rfl j hj
  refine ⟨hb, h1, c0, c1, c2, c3, fun b' => ?_⟩
  have h2 := RL.set h i hi' j b'
  simp only [he, List.set_set] at h2
  exact h2
theorem own_lt_of {w : World} {base : Nat} {v : Value} {rs : List Rs} (h : RL w base v rs) (i : Nat) (hi : i < rs.length) : rs[i].g < w.heap.size := ((h.may rs[i] (List.getElem_mem hi)).lt _ rfl).2
/-- Flags and flags, so far. -/
def andTo (m o : List Bool) (k : Nat) : List Bool := List.zipWith (· && ·) (m.take k) (o.take k) ++ m.drop k
theorem andTo_zero (m o : List Bool) : andTo m o 0 = m := by simp [andTo]
theorem andTo_all (m o : List Bool) (h : m.length = o.length) : andTo m o m.length = List.zipWith (· && ·) m o := by
  unfold andTo
  rw [List.take_length, List.drop_length, List.append_nil, show o.take m.length = o from by rw [h, List.take_length]]
theorem andTo_len (m o : List Bool) (k : Nat) (h : m.length = o.length) : (andTo m o k).length = m.length := by simp [andTo]; omega
theorem andTo_at (m o : List Bool) (k : Nat) (h : m.length = o.length) (hk : k < m.length) : (andTo m o k)[k]? = some m[k] := by
  unfold andTo
  rw [List.getElem?_append_right (by simp; omega)]
  simp [show min k m.length = k by omega, show min k o.length = k by omega, hk]
theorem andTo_set (m o : List Bool) (k : Nat) (h : m.length = o.length) (hk : k < m.length) : (andTo m o k).set k (m[k] && o[k]'(by omega)) = andTo m o (k + 1) := by
  unfold andTo
  have hl : (List.zipWith (· && ·) (m.take k) (o.take k)).length = k := by simp; omega
  rw [List.set_append_right _ _ (by omega), hl, Nat.sub_self, List.drop_eq_getElem_cons hk, List.set_cons_zero, List.take_succ_eq_append_getElem hk, List.take_succ_eq_append_getElem (show k < o.length by omega), List.zipWith_append (by simp; omega)]
  simp
/-- The columns' dictionaries, as the call is handed them. -/
structure OfOk (w : World) (gf : Nat) (lb : Array Value) (S : List Nm) (db : Nm → Nat) (dk : Nm → Int) (dA : Nm → Option Addr) (dc : Nm → Nat) (dy : Nm → List Val) : Prop where
  eg : ∀ args w, (callFunc gf args).run Tryz.prog w = .ok (.enter gf args) w
  call : ∀ W s, s ∈ S → Keep w W → Calls Tryz.prog gf (#[encStr s] ++ lb) W fun e w' => e = .returned (.pointer (some ⟨db s, 0, none⟩)) ∧ Keep W w'
  at_ : ∀ s ∈ S, DictAt w (db s) (dk s) (dA s) (dc s) (dy s)
  kind : ∀ s ∈ S, dk s = 1 ∨ dk s = 2
  len : ∀ s ∈ S, (dy s).length ≤ 1000000
/-- A column's flags behind some parts. -/
def mayStep (dk : Nm → Int) (dy : Nm → List Val) (s : Nm) (m : List Bool) (n : Nd) : List Bool := if (colsOf n).head? = some s then List.zipWith (· && ·) m (oneF (dk s) (dy s) n) else m
def mayTo (dk : Nm → Int) (dy : Nm → List Val) (s : Nm) (ps : List Nd) : List Bool := ps.foldl (mayStep dk dy s) (List.replicate (dy s).length true)
theorem mayStep_len (dk : Nm → Int) (dy : Nm → List Val) (s : Nm) (m : List Bool) (n : Nd) (h : m.length = (dy s).length) : (mayStep dk dy s m n).length = (dy s).length := by
  unfold mayStep
  split
  · simp [oneF_len, h]
  · exact h
theorem mayTo_len (dk : Nm → Int) (dy : Nm → List Val) (s : Nm) : ∀ (ps : List Nd) (m : List Bool), m.length = (dy s).length → (ps.foldl (mayStep dk dy s) m).length = (dy s).length
  | [], m, h => h
  | n :: r, m, h => mayTo_len dk dy s r _ (mayStep_len dk dy s m n h)
theorem mayTo_succ (dk : Nm → Int) (dy : Nm → List Val) (s : Nm) (ps : List Nd) (k : Nat) (h : k < ps.length) : mayTo dk dy s (ps.take (k + 1)) = mayStep dk dy s (mayTo dk dy s (ps.take k)) ps[k] := by
  unfold mayTo
  rw [List.take_succ_eq_append_getElem h, List.foldl_append]
  rfl
def nothP (n : Nd) : Bool := (colsOf n).isEmpty && !takesB [] [] n
def nothTo (ps : List Nd) : Bool := ps.any nothP
theorem nothTo_succ (ps : List Nd) (k : Nat) (h : k < ps.length) : nothTo (ps.take (k + 1)) = (nothTo (ps.take k) || nothP ps[k]) := by
  unfold nothTo
  rw [List.take_succ_eq_append_getElem h, List.any_append]
  simp
/-- What Restrict gives. -/
def RestR (base : Nat) (dk : Nm → Int) (dy : Nm → List Val) (f : Nd) (v : Value) (no ok : Bool) (W : World) : Prop :=
  (ok = false ∧ no = false ∧ partsOf f = none ∧ v = .slice none 0 0) ∨
  (ok = true ∧ ∃ ps rs, partsOf f = some ps ∧ no = nothTo ps ∧ RL W base v rs ∧ rs.map (fun r => (r.col, r.may)) = (colsOf f).map fun s => (s, mayTo dk dy s ps))
theorem sl_nm {w : World} {c : Nat} {A : Option Addr} {xs : List Nm} (h : Sl w 1 nmV A c xs) (i : Nat) (hi : i < xs.length) : ∃ b off, A = some ⟨b, off, none⟩ ∧ b < w.heap.size ∧ w.cell? ⟨b, off + i, none⟩ = some (encStr xs[i]) := by
  obtain ⟨b, off, hA, hc⟩ := h.at_ i hi
  have h0 := hc 0 _ rfl
  exact ⟨b, off, hA, World.block_lt_of_cell? w _ h0, by simpa using h0⟩
set_option maxHeartbeats 400000 in
theorem indexRs_any (A : Option Addr) (c : Nat) (xs : List Rs) (g : Nat) (lb : Array Value) (p : Rs → Bool) (w : World) (eg : ∀ args w, (callFunc g args).run Tryz.prog w = .ok (.enter g args) w)
    (h : Sl w 2 rsV A c xs) (hp : PredOk Tryz.prog g lb Rs.v p w) :
    Calls Tryz.prog 36 #[.slice A xs.length c, .func (.func g) #[] lb] w fun e w' => e = .returned (.int .i64 (idxP p xs 0)) ∧ Keep w w' := by
  have hl := sl_len h
  have HP := Lib.hid hp; clear hp
  go_enter Tryz.func36, Tryz.ntmps36
  go_wp2
  go_loopw [5, 8] (fun _ i wr => ∃ k : Nat, k ≤ xs.length ∧ i = .int .i64 k ∧ Hid (Keep w wr) ∧ Hid (∀ j, (h : j < xs.length) → j < k → p xs[j] = false)) (fun _ i _ => xs.length - (intOf i).toNat)
  case atStart => exact ⟨0, Nat.zero_le _, rfl, Keep.refl _, fun j _ hj => absurd hj (Nat.not_lt_zero _)⟩
  case round =>
    obtain ⟨k, hk, rfl, HK, HR⟩ := hrel
    by_cases hlt : k < xs.length
    · have hcall := HP.out wr xs[k] HK.out
      obtain ⟨b, off, rfl, hb, h0, h1⟩ := sl_rs (h.keep HK.out) k hlt
      clear h
      by_cases hq : p xs[k] = true
      · rw [hq] at hcall
        have HC := Lib.hid hcall
        have HQ := Lib.hid hq
        clear hcall hq
        go_wp2_with (go_at_fn g; refine HC.out.mono ?_; rintro e w' ⟨rfl, hk'⟩)
        go_ret
        exact ⟨ret_int (by rw [idxP_at p xs 0 k HR.out, List.drop_eq_getElem_cons hlt]; simp [idxP, HQ.out]), HK.out.trans hk'⟩
      · have hq' : p xs[k] = false := by simpa using hq
        rw [hq'] at hcall
        have HC := Lib.hid hcall
        have HQ := Lib.hid hq'
        clear hcall hq hq'
        go_wp2_with (go_at_fn g; refine HC.out.mono ?_; rintro e w' ⟨rfl, hk'⟩)
        go_roundw
        case rel => exact ⟨k + 1, by omega, by go_num, HK.out.trans hk', fun j hj hjk => by
          by_cases e : j = k
          · subst e; exact HQ.out
          · exact HR.out j hj (by omega)⟩
        case measure => simp [intOf]; omega
    · go_wp2
      go_ret
      exact ⟨ret_int (by rw [idxP_at p xs 0 xs.length fun j hj _ => HR.out j hj (by omega)]; simp [idxP]), HK.out⟩
def isRs (s : Nm) (r : Rs) : Bool := r.col == s
theorem rest1_any (r : Rs) (b : Nat) (A2 : Option Addr) (c2 : Nat) (cs : List Nm) (s : Nm) (w : World) (h : w.cell? ⟨b, 0, none⟩ = some (.slice A2 cs.length c2)) (hs : Sl w 1 nmV A2 c2 cs) (hc : cs = [s]) :
    Calls Tryz.prog 37 #[r.v, .pointer (some ⟨b, 0, none⟩)] w fun e w' => e = .returned (.bool (isRs s r)) ∧ Keep w w' := by
  subst hc
  obtain ⟨b2, off2, rfl, hb2, e0⟩ := sl_nm hs 0 (by simp)
  have hb := World.block_lt_of_cell? _ _ h
  simp only [List.length_singleton, List.getElem_cons_zero, Nat.add_zero] at h hb e0
  obtain ⟨rc, rg, rm⟩ := r
  clear hs
  simp only [Rs.v]
  go_enter Tryz.func37, Tryz.ntmps37
  go_wp2
  first | refine Zone.wp_region_all_gro (by kernel_rfl) (by kernel_rfl) ?_ | refine Zone.wp_region_all (by kernel_rfl) (by kernel_rfl) ?_
  repeat
    refine Zone.wpZ_step (fun K hK => ?_)
    go_simp
    first
    | (refine hK _ _ ?_; clear hK K)
    | (apply Exists.intro
       refine ⟨fun p => ?_, hK _ _ ?_⟩
       (fail)
       clear hK K)
  refine Zone.wpZ_nil ?_
  intro p
  simp only [Zone.fill]
  go_wp2
  go_ret
  exact ⟨rfl, (by repeat (first | exact Keep.refl _ | apply Keep.alloc | apply Keep.gro | apply Keep.drew | apply Keep.drewN))⟩
end Go.Proofs.YthigflnfccajoaaGreat
