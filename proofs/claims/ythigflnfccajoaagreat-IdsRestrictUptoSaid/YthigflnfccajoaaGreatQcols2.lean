
/- A filter's columns: query.Columns. -/
import Derived.WalkKit
import Derived.Lib.Hide
import Derived.WalkSpells
import Derived.WalkLawsBesides
import Derived.BigQuiet
import Derived.Shelf.Abstract
import Derived.Test.YthigflnfccajoaaGreatQtree
import Derived.Test.YthigflnfccajoaaGreatQcols
namespace Go.Proofs.YthigflnfccajoaaGreat
open Go.RowKit Go.Zone Go.Shelf Go.Sort
attribute [local go_sem] Zone.zone Zone.stepZ Zone.fill Zone.lookFs Zone.goes Zone.goesUpon Zone.dropFs Zone.cell_gro Zone.frozen_gro Zone.size_gro Zone.lt_add Zone.drew_gro Zone.tape_gro Zone.keep_refl
attribute [local go_sem] Zone.lt_add2 Zone.lt_add3 Zone.lt_add4 Zone.lt_add5 Zone.lt_add6 Zone.lt_add7 Zone.lt_add8 Zone.lt_add9 Zone.lt_add10 Zone.lt_add11 Zone.lt_add12
/-- How many nodes a filter has. -/
def Nd.sz (n : Nd) : Nat := 1 + (n.kids.attach.map fun k => Nd.sz k.1).sum
termination_by SizeOf.sizeOf n
decreasing_by exact kid_lt k.2
theorem sz_eq (n : Nd) : n.sz = 1 + (n.kids.map Nd.sz).sum := by
  rw [Nd.sz]
  congr 2
  exact List.attach_map_val (l := n.kids) (f := Nd.sz)
/-- The columns of a filter's leaves, rising, each once. -/
def colsOf (n : Nd) : List Nm := if n.op = 4 then [n.col.data.toList] else compN (sortN (n.kids.attach.flatMap fun k => colsOf k.1))
termination_by SizeOf.sizeOf n
decreasing_by exact kid_lt k.2
theorem flatMap_att {α β : Type} (l : List α) (f : α → List β) : (l.attach.flatMap fun x => f x.1) = l.flatMap f := by
  conv => rhs; rw [← List.attach_map_subtype_val l, List.flatMap_map]
theorem colsOf_eq (n : Nd) : colsOf n = if n.op = 4 then [n.col.data.toList] else compN (sortN (n.kids.flatMap colsOf)) := by
  rw [colsOf, flatMap_att n.kids colsOf]
theorem cols_flat : ∀ (l : List Nd), (∀ k ∈ l, (colsOf k).length ≤ k.sz) → (l.flatMap colsOf).length ≤ (l.map Nd.sz).sum
  | [], _ => by simp
  | k :: r, h => by
    have h1 := cols_flat r fun x hx => h x (List.mem_cons_of_mem _ hx)
    have h2 := h k List.mem_cons_self
    simp only [List.flatMap_cons, List.length_append, List.map_cons, List.sum_cons]
    omega
theorem cols_len (n : Nd) : (colsOf n).length ≤ n.sz := by
  rw [colsOf_eq, sz_eq]
  split
  · simp
  · have h1 := cols_flat n.kids fun k hk => cols_len k
    have h2 := compN_len (sortN (n.kids.flatMap colsOf))
    have h3 : (sortN (n.kids.flatMap colsOf)).length = (n.kids.flatMap colsOf).length := List.length_mergeSort _
    omega
termination_by SizeOf.sizeOf n
decreasing_by exact kid_lt hk
theorem sz_take (l : List Nd) (i : Nat) : ((l.take i).map Nd.sz).sum ≤ (l.map Nd.sz).sum := by
  conv => rhs; rw [← List.take_append_drop i l, List.map_append, List.sum_append]
  omega
theorem sz_mem : ∀ (l : List Nd) (k : Nd), k ∈ l → k.sz ≤ (l.map Nd.sz).sum
  | x :: r, k, h => by
    rcases List.mem_cons.1 h with h | h
    · subst h; simp
    · have := sz_mem r k h
      simp; omega
theorem cols_take (l : List Nd) (i : Nat) (h : i < l.length) : (l.take (i + 1)).flatMap colsOf = (l.take i).flatMap colsOf ++ colsOf l[i] := by
  rw [List.take_succ_eq_append_getElem h, List.flatMap_append]; simp
theorem own_one {W : World} {base : Nat} (s : Nm) (h : base ≤ W.heap.size) : OwnN (W.alloc (.cells #[encStr s] 9)) base (.slice (some ⟨W.heap.size, 0, none⟩) 1 1) [s] :=
  ⟨rfl, .inr ⟨W.heap.size, 1, #[encStr s], rfl, h, by show (W.heap.push _)[W.heap.size]? = _; exact Array.getElem?_push_size, Nat.le_refl _, by unfold maxLen; omega, rfl, rfl⟩⟩
theorem enc_col (c : ByteArray) : encStr c.data.toList = .string c := by simp [encStr]
set_option maxRecDepth 100000 in
set_option maxHeartbeats 4000000 in
theorem columns_any (w0 : World) (b : Nat) (n : Nd) (hn : Nd.In w0 b n) : ∀ (w : World), Keep w0 w → n.sz ≤ 1000000 →
    Calls Tryz.prog 32 #[n.v] w fun e w' => ∃ v, e = .returned v ∧ OwnN w' w.heap.size v (colsOf n) ∧ Keep w w' := by
  induction hn with
  | mk n hk hv hA hB hi ih =>
  intro w hK0 hsz
  have HS := Lib.hid (hk.keep hK0)
  have hkl := hk.len
  have hvl := hv.len
  have HLK := Lib.hid (fun k hk => cols_len k : ∀ k ∈ n.kids, (colsOf k).length ≤ k.sz)
  have HZ := Lib.hid (show (n.kids.map Nd.sz).sum ≤ 1000000 by have := sz_eq n; omega)
  have IH := Lib.hid (show ∀ k ∈ n.kids, ∀ W, Keep w W → Calls Tryz.prog 32 #[k.v] W fun e w' => ∃ v, e = .returned v ∧ OwnN w' W.heap.size v (colsOf k) ∧ Keep W w' from
    fun k hk W hW => ih k hk W (hK0.trans hW) (by have := sz_mem n.kids k hk; have := HZ.out; omega))
  clear hk hv hA hB hi ih hK0 hsz
  obtain ⟨op, KA, kc, kids, col, cmp, VB, vd, vals⟩ := n
  simp only [Nd.v] at hkl hvl HS IH HZ HLK ⊢
  rw [colsOf_eq]
  simp only
  by_cases h4 : op = 4
  · subst h4
    rw [if_pos rfl]
    go_enter Tryz.func32, Tryz.ntmps32
    go_wp2
    go_ret
    refine ⟨.slice (some ⟨w.heap.size + 1, 0, none⟩) 1 1, rfl, ?_, (by repeat (first | exact Keep.refl _ | apply Keep.alloc | apply Keep.gro | apply Keep.drew | apply Keep.drewN))⟩
    have := own_one (W := w.alloc (.cells #[.int .u8 4, .slice KA kids.length kc, .string col, .int .u8 cmp, .slice VB vals.length vd] 27)) (base := w.heap.size) col.data.toList (by simp)
    rw [enc_col] at this
    simpa only [World.size_alloc] using this
  · have d4 : (op == 4) = false := by simpa using h4
    rw [if_neg h4]
    clear h4
    obtain ⟨cs, hcs⟩ : ∃ cs, kids.flatMap colsOf = cs := ⟨_, rfl⟩
    rw [hcs]
    have hlen : cs.length ≤ 1000000 := by have h1 := cols_flat kids HLK.out; have := HZ.out; rw [hcs] at h1; omega
    have HCS := Lib.hid hcs
    clear hcs
    go_enter Tryz.func32, Tryz.ntmps32
    go_wp2
    go_loopw [3, 5, 15] (fun v _ i wr => ∃ k : Nat, k ≤ kids.length ∧ i = .int .i64 k ∧ Hid (OwnN wr (w.heap.size + 1) v ((kids.take k).flatMap colsOf)) ∧ Hid (Keep w wr) ∧ w.heap.size < wr.heap.size) (fun _ _ i _ => kids.length - (intOf i).toNat)
    case atStart => exact ⟨0, Nat.zero_le _, rfl, Own.nil_ _ _ _ _ _, (by repeat (first | exact Keep.refl _ | apply Keep.alloc | apply Keep.gro | apply Keep.drew | apply Keep.drewN)), by simp⟩
    case round =>
      obtain ⟨k, hk, rfl, HO, HK, hz⟩ := hrel
      by_cases hlt : k < kids.length
      · obtain ⟨g, off, rfl, hg, h0, h1, h2, h3, h4⟩ := sl_nd (HS.out.keep HK.out) k hlt
        have HT := Lib.hid (cols_take kids k hlt)
        have HL1 := HLK.out kids[k] (List.getElem_mem hlt)
        have HL2 := sz_mem kids kids[k] (List.getElem_mem hlt)
        have HL3 := cols_flat (kids.take k) (fun x hx => HLK.out x (List.mem_of_mem_take hx))
        have HL4 := sz_take kids k
        have HL5 := HZ.out
        go_wp2_with (go_at_call 32; refine Zone.hold ?_)
        refine Zone.unhold ?_
        refine (IH.out kids[k] (List.getElem_mem hlt) _ (HK.out.trans (by repeat (first | exact Keep.refl _ | apply Keep.alloc | apply Keep.gro | apply Keep.drew | apply Keep.drewN)))).mono ?_
        rintro e w2 ⟨v2, rfl, hown2, hk2⟩
        obtain ⟨p, rfl⟩ := gro_of_below _ hk2
        obtain ⟨A2, c2, rfl, hs2⟩ := hown2.sl nm_len (by omega)
        go_wp2_with (at_builtin; refine Zone.hold ?_)
        refine Zone.unhold ?_
        have HO1 : OwnN ((wr.alloc (.cells #[.int .u8 kids[k].op, .slice kids[k].A kids[k].kids.length kids[k].c, .string kids[k].col, .int .u8 kids[k].cmp, .slice kids[k].B kids[k].vals.length kids[k].d] 27)).gro p) (w.heap.size + 1) u3 ((kids.take k).flatMap colsOf) := HO.out.keep (by repeat (first | exact Keep.refl _ | apply Keep.alloc | apply Keep.gro | apply Keep.drew | apply Keep.drewN))
        refine wpList_app elt_n nm_len nm_one rfl (.tmp 19) (.tmp 21) rfl (ys := colsOf kids[k]) HO1 rfl rfl hs2 (by omega) (by simp [size_gro]; omega) ?_
        intro v1 w3 hown3 hg3 _
        have ⟨a1, a2, a3⟩ := HO1.after (w := w) hg3 (HK.out.trans (by repeat (first | exact Keep.refl _ | apply Keep.alloc | apply Keep.gro | apply Keep.drew | apply Keep.drewN))) (by omega)
        have HO4 := Lib.hid hown3
        have HA1 := Lib.hid a1
        have hz3 : w.heap.size < w3.heap.size := by simp [size_gro] at a2; omega
        clear hown3 hg3 HO1 a1 a2 a3 hs2 hown2 hk2 HL1 HL2 HL3 HL4 HL5
        go_wp2
        go_roundw
        case rel => exact ⟨k + 1, by omega, by go_num, (by show OwnN _ _ _ _; rw [HT.out]; exact HO4.out), HA1.out, hz3⟩
        case measure => simp [intOf]; omega
      · have : k = kids.length := by omega
        subst this
        rw [List.take_length, HCS.out] at HO
        obtain ⟨A2, c2, rfl, hs2⟩ := HO.out.sl nm_len (by omega)
        clear hs2
        go_wp2_with (go_at_call 67; refine Zone.hold ?_)
        refine Zone.unhold ?_
        refine (sortN_any A2 c2 _ _ _ HO.out (by omega)).mono ?_
        rintro e w3 ⟨rfl, hown3, hg3⟩
        have hsl : (sortN cs).length = cs.length := List.length_mergeSort _
        have hk3 : Keep w w3 := HK.out.grown hg3 (fun j e => by have := HO.out.lt j e; omega)
        have HK3 := Lib.hid hk3
        have HO3 := Lib.hid hown3
        rw [← hsl] at HO3 ⊢
        have hln : (sortN cs).length ≤ 1000000000 := by omega
        clear hown3 hg3 hk3 hsl hlen
        go_wp2_with (go_at_call 68; refine Zone.hold ?_)
        refine Zone.unhold ?_
        refine (compN_any A2 c2 _ _ _ HO3.out hln).mono ?_
        rintro e w4 ⟨rfl, hown4, hg4⟩
        have hk4 : Keep w w4 := HK3.out.grown hg4 (fun j e => by have := HO3.out.lt j e; omega)
        have HK4 := Lib.hid hk4
        have HO4 := Lib.hid hown4
        clear hown4 hg4 hk4
        go_wp2
        go_ret
        exact ⟨_, rfl, Own.base_mono HO4.out (by omega), HK4.out⟩
end Go.Proofs.YthigflnfccajoaaGreat
