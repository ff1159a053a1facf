
/- The law's leaf; the document's comparison of flags. -/
import Derived.WalkKit
import Derived.Lib.Hide
import Derived.WalkSpells
import Derived.WalkLawsBesides
import Derived.BigQuiet
import Derived.Shelf.Abstract
import Derived.Test.YthigflnfccajoaaGreatIrest2
import Derived.Test.YthigflnfccajoaaGreatLaw
namespace Go.Proofs.YthigflnfccajoaaGreat
open Go.RowKit Go.Zone Go.Shelf
attribute [local go_sem] Zone.zone Zone.stepZ Zone.fill Zone.lookFs Zone.goes Zone.goesUpon Zone.dropFs Zone.cell_gro Zone.frozen_gro Zone.size_gro Zone.lt_add Zone.drew_gro Zone.tape_gro Zone.keep_refl
attribute [local go_sem] Zone.lt_add2 Zone.lt_add3 Zone.lt_add4 Zone.lt_add5 Zone.lt_add6 Zone.lt_add7 Zone.lt_add8 Zone.lt_add9 Zone.lt_add10 Zone.lt_add11 Zone.lt_add12
attribute [local go_sem] Zone.calm_normal
def vN (n : Int) : Val := ⟨1, n, ⟨#[]⟩⟩
/-- A leaf of a number, its value in block g. -/
def lfN (g : Nat) (col : ByteArray) (cmp n : Int) : Nd := ⟨4, none, 0, [], col, cmp, some ⟨g, 0, none⟩, 1, [vN n]⟩
theorem lfN_v (g : Nat) (col : ByteArray) (cmp n : Int) : (lfN g col cmp n).v = .agg #[.int .u8 4, .slice none 0 0, .string col, .int .u8 cmp, .slice (some ⟨g, 0, none⟩) 1 1] := rfl
theorem lfN_in {w : World} {g : Nat} {col : ByteArray} {cmp n : Int} (h : Sl w 3 Val.cells (some ⟨g, 0, none⟩) 1 [vN n]) : Nd.In w w.heap.size (lfN g col cmp n) := by
  refine .mk _ (Sl.nil_ _ (Nat.zero_le _)) h (fun _ _ _ h => absurd h (Nat.not_lt_zero _)) (fun g' off e _ => ?_) (fun _ h => by cases h)
  obtain ⟨b, o, e2, hc⟩ := h.at_ 0 (by simp)
  have := World.block_lt_of_cell? _ _ (hc 0 _ rfl)
  simp only [lfN, Option.some.injEq, Addr.mk.injEq] at e e2
  simp only at this
  omega
theorem lf_any (col : ByteArray) (cmp n : Int) (w : World) :
    Calls Tryz.prog 28 #[.string col, .int .u8 cmp, .int .i64 n] w fun e w' => ∃ g, e = .returned (lfN g col cmp n).v ∧ Sl w' 3 Val.cells (some ⟨g, 0, none⟩) 1 [vN n] ∧ Keep w w' := by
  go_enter Tryz.func28, Tryz.ntmps28
  go_wp2
  exact bodyPost_ret (v := (lfN (w.heap.size + 1) col cmp n).v) (by simp [results, Tryz.results28, go_sem, lfN]) rfl ⟨w.heap.size + 1, rfl, sl_one (by simp [go_sem, vN]) (by simp [go_sem, vN]) (by simp [go_sem, vN]), (by repeat (first | exact Keep.refl _ | apply Keep.alloc | apply Keep.gro | apply Keep.drew | apply Keep.drewN))⟩
set_option maxHeartbeats 1000000 in
theorem flagsEq_any (A B : Option Addr) (c d : Nat) (xs ys : List Bool) (w : World) (hx : Sl w 1 boolV A c xs) (hy : Sl w 1 boolV B d ys) :
    Calls Tryz.prog 15 #[.slice A xs.length c, .slice B ys.length d] w fun e w' => e = .returned (.bool (decide (xs = ys))) ∧ Keep w w' := by
  have hlx := sl_len hx
  have hly := sl_len hy
  by_cases hl : xs.length = ys.length
  · rw [← hl]
    have HX := Lib.hid hx
    have HY := Lib.hid hy
    have HL := Lib.hid hl
    clear hx hy hl hly
    go_enter Tryz.func15, Tryz.ntmps15
    go_wp2
    go_loopw [5] (fun i wr => ∃ k : Nat, k ≤ xs.length ∧ i = .int .i64 k ∧ Hid (Keep w wr) ∧ Hid (xs.take k = ys.take k)) (fun i _ => xs.length - (intOf i).toNat)
    case atStart => exact ⟨0, Nat.zero_le _, rfl, Keep.refl _, rfl⟩
    case round =>
      obtain ⟨k, hk, rfl, HK, HE⟩ := hrel
      by_cases hlt : k < xs.length
      · have hlt2 : k < ys.length := by have := HL.out; omega
        obtain ⟨bx, ox, rfl, hcx⟩ := (HX.out.keep HK.out).at_ k hlt
        obtain ⟨by_, oy, rfl, hcy⟩ := (HY.out.keep HK.out).at_ k hlt2
        have x0 := hcx 0 _ rfl
        have y0 := hcy 0 _ rfl
        have bx0 := World.block_lt_of_cell? _ _ x0
        have by0 := World.block_lt_of_cell? _ _ y0
        simp only [Nat.mul_one, Nat.add_zero] at x0 y0 bx0 by0
        have hs : xs.take (k + 1) = xs.take k ++ [xs[k]] := List.take_succ_eq_append_getElem hlt
        have hs2 : ys.take (k + 1) = ys.take k ++ [ys[k]] := List.take_succ_eq_append_getElem hlt2
        have HS := Lib.hid hs
        have HS2 := Lib.hid hs2
        have HN := Lib.hid (show xs = ys → xs[k] = ys[k] from fun e => by subst e; rfl)
        clear hs hs2 hcx hcy
        generalize xs[k] = u at x0 HS HN
        generalize ys[k] = v at y0 HS2 HN
        by_cases huv : u = v
        · subst huv
          go_wp2
          first | refine Zone.wp_region_all_gro (by kernel_rfl) (by kernel_rfl) ?_ | refine Zone.wp_region_all (by kernel_rfl) (by kernel_rfl) ?_
          repeat
            refine Zone.wpZ_step (fun K hK => ?_)
            go_simp
            first
            | (refine hK _ _ ?_; clear hK K)
            | (apply Exists.intro
               refine ⟨fun p => ?_, hK _ _ ?_⟩
               (fail)
               clear hK K)
          refine Zone.wpZ_nil ?_
          intro p
          simp only [Zone.fill]
          go_wp2
          go_roundw
          case rel => exact ⟨k + 1, by omega, by go_num, HK.out.trans (by repeat (first | exact Keep.refl _ | apply Keep.alloc | apply Keep.gro | apply Keep.drew | apply Keep.drewN)), by show xs.take (k + 1) = _; rw [HS.out, HS2.out, HE.out]⟩
          case measure => simp [intOf]; omega
        · have hb : (u == v) = false := by simpa using huv
          have HU := Lib.hid huv
          clear huv
          go_wp2
          first | refine Zone.wp_region_all_gro (by kernel_rfl) (by kernel_rfl) ?_ | refine Zone.wp_region_all (by kernel_rfl) (by kernel_rfl) ?_
          repeat
            refine Zone.wpZ_step (fun K hK => ?_)
            go_simp
            first
            | (refine hK _ _ ?_; clear hK K)
            | (apply Exists.intro
               refine ⟨fun p => ?_, hK _ _ ?_⟩
               (fail)
               clear hK K)
          refine Zone.wpZ_nil ?_
          intro p
          simp only [Zone.fill]
          go_wp2
          go_ret
          exact ⟨ret_bool (by rw [eq_comm, decide_eq_false_iff_not]; exact fun e => HU.out (HN.out e)), HK.out.trans (by repeat (first | exact Keep.refl _ | apply Keep.alloc | apply Keep.gro | apply Keep.drew | apply Keep.drewN))⟩
      · have : k = xs.length := by omega
        subst this
        have he : xs = ys := by have := HE.out; rwa [List.take_length, HL.out, List.take_length] at this
        have HE2 := Lib.hid he
        clear he
        go_wp2
        go_ret
        exact ⟨ret_bool (by simp [HE2.out]), HK.out⟩
  · have HU := Lib.hid hl
    have hne : ((xs.length : Int) == (ys.length : Int)) = false := by simp; omega
    clear hx hy
    go_enter Tryz.func15, Tryz.ntmps15
    go_wp2
    go_ret
    exact ⟨ret_bool (by rw [eq_comm, decide_eq_false_iff_not]; exact fun e => HU.out (by rw [e])), Keep.refl _⟩
end Go.Proofs.YthigflnfccajoaaGreat
/- The plain law of a leaf over numbers. -/
namespace Go.Proofs.YthigflnfccajoaaGreat
open Go.RowKit Go.Zone Go.Shelf
theorem cmp_vN (a b : Int) : cmpV (vN a) (vN b) = cmpI a b := by
  have e1 : cmpI 1 1 = 0 := by decide
  have e2 : cmpS ⟨#[]⟩ ⟨#[]⟩ = 0 := by simp only [cmpS, Lib.toList_data]; decide
  simp only [cmpV, vN, e1, e2, orL]
  simp
  exact fun h => h.symm
theorem lt_vN (a b : Int) : LtV (vN a) (vN b) ↔ a < b := by
  rw [← cmpV_lt, cmp_vN]
  unfold cmpI
  split
  · simp [*]
  · split <;> simp <;> omega
def opI (cmp y m : Int) : Bool := if cmp = 1 then decide (y = m) else if cmp = 3 then decide (y < m) else if cmp = 4 then decide (y ≤ m) else if cmp = 5 then decide (m < y) else if cmp = 6 then decide (m ≤ y) else true
theorem comp_vN (cmp y m : Int) (h : cmp = 1 ∨ cmp = 3 ∨ cmp = 4 ∨ cmp = 5 ∨ cmp = 6) : compB (vN y) cmp [vN m] = opI cmp y m := by
  rcases h with rfl | rfl | rfl | rfl | rfl <;> simp [compB, opI, soB, cmp_vN] <;> unfold cmpI <;> (split <;> (try split) <;> simp <;> omega)
theorem leafF_vN (ns : List Int) (g : Nat) (col : ByteArray) (cmp m : Int) (h : cmp = 1 ∨ cmp = 3 ∨ cmp = 4 ∨ cmp = 5 ∨ cmp = 6) : leafF 1 (ns.map vN) (lfN g col cmp m) = ns.map fun y => opI cmp y m := by
  unfold leafF
  rw [List.map_map]
  refine List.map_congr_left fun y _ => ?_
  show takesB _ _ _ = _
  rw [takesB_eq]
  simp only [lfN, leafB, idxP, isCol, beq_self_eq_true, if_true]
  simp [comp_vN _ _ _ h]
/-- A dictionary of numbers: each value a number, each greater than the one before. -/
theorem own_ints (xs : List Val) (h : dErr 1 xs = 0) : ∃ ns : List Int, dOwn xs = ns.map vN ∧ ns.Pairwise (· < ·) := by
  have hs := (dOwn_sorted xs).1
  have hm := (dOwn_sorted xs).2
  have hk : badKind 1 = false := by decide
  unfold dErr at h
  rw [hk] at h
  simp only [Bool.false_eq_true, if_false] at h
  split at h
  · cases h
  rename_i h1
  split at h
  · cases h
  rename_i h2
  have hv : ∀ x ∈ dOwn xs, x = vN x.n := fun x hx => by
    have a1 : (x.k != 1) = false := by
      have := List.any_eq_false.1 (show (dOwn xs).any (fun x => x.k != 1) = false by simpa using h2) x hx
      simpa using this
    have a2 : noMay x = false := by
      have := List.any_eq_false.1 (show xs.any noMay = false by simpa using h1) x ((hm x).1 hx)
      simpa using this
    have k1 : x.k = 1 := by simpa using a1
    have a3 : mayV x = true := by simpa [noMay] using a2
    unfold mayV at a3
    rw [k1] at a3
    simp only [beq_self_eq_true, if_true] at a3
    obtain ⟨k, n, ⟨⟨l⟩⟩⟩ := x
    rw [Lib.toList_data] at a3
    simp only [List.isEmpty_iff] at a3
    simp only at k1
    subst k1; subst a3
    rfl
  refine ⟨(dOwn xs).map Val.n, ?_, ?_⟩
  · rw [List.map_map]
    have : ∀ l : List Val, (∀ x ∈ l, x = vN x.n) → l = l.map (vN ∘ Val.n) := fun l => by
      induction l with
      | nil => intro _; rfl
      | cons x r ih =>
        intro hx
        rw [List.map_cons, ← ih fun y hy => hx y (by simp [hy])]
        exact congrArg (· :: r) (hx x (by simp))
    exact this _ hv
  · rw [List.pairwise_map]
    refine hs.imp_of_mem fun hx hy hlt => ?_
    rw [hv _ hx, hv _ hy, lt_vN] at hlt
    exact hlt
end Go.Proofs.YthigflnfccajoaaGreat
/- The law's sample: what is computed over it. -/
namespace Go.Proofs.YthigflnfccajoaaGreat
open Go.RowKit Go.Zone Go.Shelf
def kA : ByteArray := ⟨#[97]⟩
def kC : ByteArray := ⟨#[99]⟩
def kYs : List Val := [vN 1, vN 2, vN 3]
theorem kYs_eq : kYs = [1, 2, 3].map vN := rfl
theorem kn_lt (a b : Int) (h : a < b) : LtV (vN a) (vN b) := (lt_vN a b).2 h
theorem kn_sorted : kYs.Pairwise LtV := by
  simp only [kYs, List.pairwise_cons, List.mem_cons, List.not_mem_nil, or_false]
  exact ⟨fun x hx => by rcases hx with rfl | rfl <;> exact kn_lt _ _ (by decide), fun x hx => by rw [hx]; exact kn_lt _ _ (by decide), fun x hx => hx.elim, List.Pairwise.nil⟩
theorem kn_own : dOwn [vN 3, vN 1, vN 2] = kYs :=
  sorted_unique _ _ (dOwn_sorted _).1 kn_sorted fun x => by rw [(dOwn_sorted _).2 x]; simp [kYs]; exact ⟨fun h => by rcases h with h | h | h <;> simp [h], fun h => by rcases h with h | h | h <;> simp [h]⟩
theorem kn_may (n : Int) : noMay (vN n) = false := by
  have : mayV (vN n) = true := by simp only [mayV, vN, Lib.toList_data]; rfl
  simp [noMay, this]
theorem kn_err : dErr 1 [vN 3, vN 1, vN 2] = 0 := by
  have h3 : kYs.any (fun x => x.k != 1) = false := rfl
  simp [dErr, badKind, kn_own, kn_may, h3]
/-- An or of two leaves. -/
def orN (g : Nat) (k1 k2 : Nd) : Nd := ⟨2, some ⟨g, 0, none⟩, 2, [k1, k2], ⟨#[]⟩, 0, none, 0, []⟩
theorem orN_op (g : Nat) (k1 k2 : Nd) : (orN g k1 k2).op = 2 := rfl
theorem lfN_op (g : Nat) (a : ByteArray) (c n : Int) : (lfN g a c n).op = 4 := rfl
theorem orN_v (g : Nat) (k1 k2 : Nd) : (orN g k1 k2).v = .agg #[.int .u8 2, .slice (some ⟨g, 0, none⟩) 2 2, .string ⟨#[]⟩, .int .u8 0, .slice none 0 0] := rfl
theorem orN_in {w : World} {g : Nat} {k1 k2 : Nd} (h : Sl w 5 Nd.cells (some ⟨g, 0, none⟩) 2 [k1, k2]) (h1 : Nd.In w w.heap.size k1) (h2 : Nd.In w w.heap.size k2) : Nd.In w w.heap.size (orN g k1 k2) := by
  refine .mk _ h (Sl.nil_ _ (Nat.zero_le _)) (fun g' off e _ => ?_) (fun _ _ _ h => absurd h (Nat.not_lt_zero _)) (fun k hk => ?_)
  · obtain ⟨b, o, e2, hc⟩ := h.at_ 0 (by simp)
    have := World.block_lt_of_cell? _ _ (hc 0 _ rfl)
    simp only [orN, Option.some.injEq, Addr.mk.injEq] at e e2
    simp only at this
    omega
  · simp only [orN, List.mem_cons, List.not_mem_nil, or_false] at hk
    rcases hk with rfl | rfl
    · exact h1
    · exact h2
theorem lf_cols (g : Nat) (col : ByteArray) (c n : Int) : colsOf (lfN g col c n) = [col.data.toList] := by rw [colsOf_eq]; rfl
theorem lf_sz (g : Nat) (col : ByteArray) (c n : Int) : (lfN g col c n).sz = 1 := by rw [sz_eq]; rfl
theorem or_sz (g g1 g2 : Nat) (a b : ByteArray) (c d m n : Int) : (orN g (lfN g1 a c m) (lfN g2 b d n)).sz = 3 := by
  rw [sz_eq]; simp [orN, lf_sz]
theorem or_mem (g g1 g2 : Nat) (a b : ByteArray) (c d m n : Int) (x : Nm) : x ∈ colsOf (orN g (lfN g1 a c m) (lfN g2 b d n)) ↔ x = a.data.toList ∨ x = b.data.toList := by
  rw [colsOf_eq]
  show x ∈ compN (sortN ([lfN g1 a c m, lfN g2 b d n].flatMap colsOf)) ↔ _
  rw [(compN_sorted _ (sortN_sorted _)).2, sortN_mem]
  simp [lf_cols]
theorem or_one (g g1 g2 : Nat) (a : ByteArray) (c d m n : Int) : colsOf (orN g (lfN g1 a c m) (lfN g2 a d n)) = [a.data.toList] := by
  have hn := cols_nodup (orN g (lfN g1 a c m) (lfN g2 a d n))
  have hm := or_mem g g1 g2 a a c d m n
  rcases hc : colsOf (orN g (lfN g1 a c m) (lfN g2 a d n)) with _ | ⟨x, r⟩
  · rw [hc] at hm
    have := (hm a.data.toList).2 (.inl rfl)
    cases this
  · rw [hc] at hm hn
    have hx := (hm x).1 (by simp)
    simp only [or_self] at hx
    have hr : r = [] := by
      rcases r with _ | ⟨y, r⟩
      · rfl
      · have hy := (hm y).1 (by simp)
        simp only [or_self] at hy
        rw [hx, hy] at hn
        simp at hn
    rw [hx, hr]
theorem or_two (g g1 g2 : Nat) (a b : ByteArray) (c d m n : Int) (h : a.data.toList ≠ b.data.toList) : partsOf (orN g (lfN g1 a c m) (lfN g2 b d n)) = none := by
  have hm := or_mem g g1 g2 a b c d m n
  have hl : ¬ (colsOf (orN g (lfN g1 a c m) (lfN g2 b d n))).length ≤ 1 := by
    intro hl
    rcases hc : colsOf (orN g (lfN g1 a c m) (lfN g2 b d n)) with _ | ⟨x, r⟩
    · rw [hc] at hm
      have := (hm a.data.toList).2 (.inl rfl)
      cases this
    · rw [hc] at hm hl
      have hr : r = [] := by cases r with | nil => rfl | cons y r => simp at hl
      subst hr
      have h1 := (hm a.data.toList).2 (.inl rfl)
      have h2 := (hm b.data.toList).2 (.inr rfl)
      simp only [List.mem_singleton] at h1 h2
      exact h (h1.trans h2.symm)
  rw [partsOf_eq, if_neg hl, if_neg (by rw [orN_op]; decide)]
theorem kn_one (g g1 g2 : Nat) : oneF 1 kYs (orN g (lfN g1 kA 1 1) (lfN g2 kA 1 3)) = [true, false, true] := by
  rw [oneF_eq, if_neg (by rw [orN_op]; decide), if_neg (by rw [orN_op]; decide), if_pos (orN_op _ _ _)]
  show eachL 3 [oneF 1 kYs (lfN g1 kA 1 1), oneF 1 kYs (lfN g2 kA 1 3)] _ = _
  rw [oneF_eq, oneF_eq, if_pos (lfN_op _ _ _ _), if_pos (lfN_op _ _ _ _), kYs_eq, leafF_vN _ _ _ _ _ (.inl rfl), leafF_vN _ _ _ _ _ (.inl rfl)]
  decide
theorem kn_leaf (g : Nat) : leafF 1 kYs (lfN g kA 5 1) = [false, true, true] := by
  rw [kYs_eq, leafF_vN _ _ _ _ _ (.inr (.inr (.inr (.inl rfl))))]; decide
theorem kn_rest {base g g1 g2 : Nat} {v : Value} {no ok : Bool} {W : World} (h : RestR base (fun _ => 1) (fun _ => kYs) (orN g (lfN g1 kA 1 1) (lfN g2 kA 1 3)) v no ok W) :
    ok = true ∧ no = false ∧ ∃ r : Rs, RL W base v [r] ∧ r.col = [97] ∧ r.may = [true, false, true] := by
  have hp : partsOf (orN g (lfN g1 kA 1 1) (lfN g2 kA 1 3)) = some [orN g (lfN g1 kA 1 1) (lfN g2 kA 1 3)] := by
    rw [partsOf_eq, or_one, if_pos (by simp)]
  rcases h with ⟨_, _, h, _⟩ | ⟨rfl, ps, rs, h, rfl, hrl, hm⟩
  · rw [hp] at h; cases h
  · rw [hp] at h
    obtain rfl := Option.some.inj h
    rw [or_one] at hm
    have hno : nothTo [orN g (lfN g1 kA 1 1) (lfN g2 kA 1 3)] = false := by simp [nothTo, nothP, or_one]
    have hmt : mayTo (fun _ => 1) (fun _ => kYs) [97] [orN g (lfN g1 kA 1 1) (lfN g2 kA 1 3)] = [true, false, true] := by
      unfold mayTo
      simp only [List.foldl_cons, List.foldl_nil]
      unfold mayStep
      rw [or_one, if_pos (by rfl), kn_one]
      decide
    have hka : kA.data.toList = [97] := rfl
    rw [hka] at hm
    simp only [List.map_cons, List.map_nil, hmt] at hm
    rcases rs with _ | ⟨r, _ | ⟨r2, t⟩⟩
    · cases hm
    · simp only [List.map_cons, List.map_nil, List.cons.injEq, Prod.mk.injEq, and_true] at hm
      exact ⟨rfl, hno, r, hrl, hm.1, hm.2⟩
    · simp at hm
theorem kn_none {base g g1 g2 : Nat} {v : Value} {no ok : Bool} {W : World} {dk : Nm → Int} {dy : Nm → List Val} (h : RestR base dk dy (orN g (lfN g1 kA 1 1) (lfN g2 kC 1 1)) v no ok W) : ok = false ∧ no = false ∧ v = .slice none 0 0 := by
  have hp := or_two g g1 g2 kA kC 1 1 1 1 (by decide)
  rcases h with ⟨h1, h2, _, h3⟩ | ⟨_, ps, rs, h, _⟩
  · exact ⟨h1, h2, h3⟩
  · rw [hp] at h; cases h
end Go.Proofs.YthigflnfccajoaaGreat
