
/- The law's sample: what is computed over it. -/
import Derived.WalkKit
import Derived.Lib.Hide
import Derived.WalkSpells
import Derived.WalkLawsBesides
import Derived.BigQuiet
import Derived.Shelf.Abstract
import Derived.Test.YthigflnfccajoaaIlaw
namespace Go.Proofs.Ythigflnfccajoaa
open Go.RowKit Go.Zone Go.Shelf
def kA : ByteArray := ⟨#[97]⟩
def kC : ByteArray := ⟨#[99]⟩
def kYs : List Val := [vN 1, vN 2, vN 3]
theorem kYs_eq : kYs = [1, 2, 3].map vN := rfl
theorem kn_lt (a b : Int) (h : a < b) : LtV (vN a) (vN b) := (lt_vN a b).2 h
theorem kn_sorted : kYs.Pairwise LtV := by
  simp only [kYs, List.pairwise_cons, List.mem_cons, List.not_mem_nil, or_false]
  exact ⟨fun x hx => by rcases hx with rfl | rfl <;> exact kn_lt _ _ (by decide), fun x hx => by rw [hx]; exact kn_lt _ _ (by decide), fun x hx => hx.elim, List.Pairwise.nil⟩
theorem kn_own : dOwn [vN 3, vN 1, vN 2] = kYs :=
  sorted_unique _ _ (dOwn_sorted _).1 kn_sorted fun x => by rw [(dOwn_sorted _).2 x]; simp [kYs]; exact ⟨fun h => by rcases h with h | h | h <;> simp [h], fun h => by rcases h with h | h | h <;> simp [h]⟩
theorem kn_may (n : Int) : noMay (vN n) = false := by
  have : mayV (vN n) = true := by simp only [mayV, vN, Lib.toList_data]; rfl
  simp [noMay, this]
theorem kn_err : dErr 1 [vN 3, vN 1, vN 2] = 0 := by
  have h3 : kYs.any (fun x => x.k != 1) = false := rfl
  simp [dErr, badKind, kn_own, kn_may, h3]
/-- An or of two leaves. -/
def orN (g : Nat) (k1 k2 : Nd) : Nd := ⟨2, some ⟨g, 0, none⟩, 2, [k1, k2], ⟨#[]⟩, 0, none, 0, []⟩
theorem orN_op (g : Nat) (k1 k2 : Nd) : (orN g k1 k2).op = 2 := rfl
theorem lfN_op (g : Nat) (a : ByteArray) (c n : Int) : (lfN g a c n).op = 4 := rfl
theorem orN_v (g : Nat) (k1 k2 : Nd) : (orN g k1 k2).v = .agg #[.int .u8 2, .slice (some ⟨g, 0, none⟩) 2 2, .string ⟨#[]⟩, .int .u8 0, .slice none 0 0] := rfl
theorem orN_in {w : World} {g : Nat} {k1 k2 : Nd} (h : Sl w 5 Nd.cells (some ⟨g, 0, none⟩) 2 [k1, k2]) (h1 : Nd.In w w.heap.size k1) (h2 : Nd.In w w.heap.size k2) : Nd.In w w.heap.size (orN g k1 k2) := by
  refine .mk _ h (Sl.nil_ _ (Nat.zero_le _)) (fun g' off e _ => ?_) (fun _ _ _ h => absurd h (Nat.not_lt_zero _)) (fun k hk => ?_)
  · obtain ⟨b, o, e2, hc⟩ := h.at_ 0 (by simp)
    have := World.block_lt_of_cell? _ _ (hc 0 _ rfl)
    simp only [orN, Option.some.injEq, Addr.mk.injEq] at e e2
    simp only at this
    omega
  · simp only [orN, List.mem_cons, List.not_mem_nil, or_false] at hk
    rcases hk with rfl | rfl
    · exact h1
    · exact h2
theorem lf_cols (g : Nat) (col : ByteArray) (c n : Int) : colsOf (lfN g col c n) = [col.data.toList] := by rw [colsOf_eq]; rfl
theorem lf_sz (g : Nat) (col : ByteArray) (c n : Int) : (lfN g col c n).sz = 1 := by rw [sz_eq]; rfl
theorem or_sz (g g1 g2 : Nat) (a b : ByteArray) (c d m n : Int) : (orN g (lfN g1 a c m) (lfN g2 b d n)).sz = 3 := by
  rw [sz_eq]; simp [orN, lf_sz]
theorem or_mem (g g1 g2 : Nat) (a b : ByteArray) (c d m n : Int) (x : Nm) : x ∈ colsOf (orN g (lfN g1 a c m) (lfN g2 b d n)) ↔ x = a.data.toList ∨ x = b.data.toList := by
  rw [colsOf_eq]
  show x ∈ compN (sortN ([lfN g1 a c m, lfN g2 b d n].flatMap colsOf)) ↔ _
  rw [(compN_sorted _ (sortN_sorted _)).2, sortN_mem]
  simp [lf_cols]
theorem or_one (g g1 g2 : Nat) (a : ByteArray) (c d m n : Int) : colsOf (orN g (lfN g1 a c m) (lfN g2 a d n)) = [a.data.toList] := by
  have hn := cols_nodup (orN g (lfN g1 a c m) (lfN g2 a d n))
  have hm := or_mem g g1 g2 a a c d m n
  rcases hc : colsOf (orN g (lfN g1 a c m) (lfN g2 a d n)) with _ | ⟨x, r⟩
  · rw [hc] at hm
    have := (hm a.data.toList).2 (.inl rfl)
    cases this
  · rw [hc] at hm hn
    have hx := (hm x).1 (by simp)
    simp only [or_self] at hx
    have hr : r = [] := by
      rcases r with _ | ⟨y, r⟩
      · rfl
      · have hy := (hm y).1 (by simp)
        simp only [or_self] at hy
        rw [hx, hy] at hn
        simp at hn
    rw [hx, hr]
theorem or_two (g g1 g2 : Nat) (a b : ByteArray) (c d m n : Int) (h : a.data.toList ≠ b.data.toList) : partsOf (orN g (lfN g1 a c m) (lfN g2 b d n)) = none := by
  have hm := or_mem g g1 g2 a b c d m n
  have hl : ¬ (colsOf (orN g (lfN g1 a c m) (lfN g2 b d n))).length ≤ 1 := by
    intro hl
    rcases hc : colsOf (orN g (lfN g1 a c m) (lfN g2 b d n)) with _ | ⟨x, r⟩
    · rw [hc] at hm
      have := (hm a.data.toList).2 (.inl rfl)
      cases this
    · rw [hc] at hm hl
      have hr : r = [] := by cases r with | nil => rfl | cons y r => simp at hl
      subst hr
      have h1 := (hm a.data.toList).2 (.inl rfl)
      have h2 := (hm b.data.toList).2 (.inr rfl)
      simp only [List.mem_singleton] at h1 h2
      exact h (h1.trans h2.symm)
  rw [partsOf_eq, if_neg hl, if_neg (by rw [orN_op]; decide)]
theorem kn_one (g g1 g2 : Nat) : oneF 1 kYs (orN g (lfN g1 kA 1 1) (lfN g2 kA 1 3)) = [true, false, true] := by
  rw [oneF_eq, if_neg (by rw [orN_op]; decide), if_neg (by rw [orN_op]; decide), if_pos (orN_op _ _ _)]
  show eachL 3 [oneF 1 kYs (lfN g1 kA 1 1), oneF 1 kYs (lfN g2 kA 1 3)] _ = _
  rw [oneF_eq, oneF_eq, if_pos (lfN_op _ _ _ _), if_pos (lfN_op _ _ _ _), kYs_eq, leafF_vN _ _ _ _ _ (.inl rfl), leafF_vN _ _ _ _ _ (.inl rfl)]
  decide
theorem kn_leaf (g : Nat) : leafF 1 kYs (lfN g kA 5 1) = [false, true, true] := by
  rw [kYs_eq, leafF_vN _ _ _ _ _ (.inr (.inr (.inr (.inl rfl))))]; decide
theorem kn_rest {base g g1 g2 : Nat} {v : Value} {no ok : Bool} {W : World} (h : RestR base (fun _ => 1) (fun _ => kYs) (orN g (lfN g1 kA 1 1) (lfN g2 kA 1 3)) v no ok W) :
    ok = true ∧ no = false ∧ ∃ r : Rs, RL W base v [r] ∧ r.col = [97] ∧ r.may = [true, false, true] := by
  have hp : partsOf (orN g (lfN g1 kA 1 1) (lfN g2 kA 1 3)) = some [orN g (lfN g1 kA 1 1) (lfN g2 kA 1 3)] := by
    rw [partsOf_eq, or_one, if_pos (by simp)]
  rcases h with ⟨_, _, h, _⟩ | ⟨rfl, ps, rs, h, rfl, hrl, hm⟩
  · rw [hp] at h; cases h
  · rw [hp] at h
    obtain rfl := Option.some.inj h
    rw [or_one] at hm
    have hno : nothTo [orN g (lfN g1 kA 1 1) (lfN g2 kA 1 3)] = false := by simp [nothTo, nothP, or_one]
    have hmt : mayTo (fun _ => 1) (fun _ => kYs) [97] [orN g (lfN g1 kA 1 1) (lfN g2 kA 1 3)] = [true, false, true] := by
      unfold mayTo
      simp only [List.foldl_cons, List.foldl_nil]
      unfold mayStep
      rw [or_one, if_pos (by rfl), kn_one]
      decide
    have hka : kA.data.toList = [97] := rfl
    rw [hka] at hm
    simp only [List.map_cons, List.map_nil, hmt] at hm
    rcases rs with _ | ⟨r, _ | ⟨r2, t⟩⟩
    · cases hm
    · simp only [List.map_cons, List.map_nil, List.cons.injEq, Prod.mk.injEq, and_true] at hm
      exact ⟨rfl, hno, r, hrl, hm.1, hm.2⟩
    · simp at hm
theorem kn_none {base g g1 g2 : Nat} {v : Value} {no ok : Bool} {W : World} {dk : Nm → Int} {dy : Nm → List Val} (h : RestR base dk dy (orN g (lfN g1 kA 1 1) (lfN g2 kC 1 1)) v no ok W) : ok = false ∧ no = false ∧ v = .slice none 0 0 := by
  have hp := or_two g g1 g2 kA kC 1 1 1 1 (by decide)
  rcases h with ⟨h1, h2, _, h3⟩ | ⟨_, ps, rs, h, _⟩
  · exact ⟨h1, h2, h3⟩
  · rw [hp] at h; cases h
end Go.Proofs.Ythigflnfccajoaa
