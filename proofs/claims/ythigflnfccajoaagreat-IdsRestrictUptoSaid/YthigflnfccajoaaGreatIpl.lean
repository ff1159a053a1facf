
/- ids.parts: a filter's parts. -/
import Derived.WalkKit
import Derived.Lib.Hide
import Derived.WalkSpells
import Derived.WalkLawsBesides
import Derived.BigQuiet
import Derived.Shelf.Abstract
import Derived.Test.YthigflnfccajoaaGreatIon
namespace Go.Proofs.YthigflnfccajoaaGreat
open Go.RowKit Go.Zone Go.Shelf
attribute [local go_sem] Zone.zone Zone.stepZ Zone.fill Zone.lookFs Zone.goes Zone.goesUpon Zone.dropFs Zone.cell_gro Zone.frozen_gro Zone.size_gro Zone.lt_add Zone.drew_gro Zone.tape_gro Zone.keep_refl
attribute [local go_sem] Zone.lt_add2 Zone.lt_add3 Zone.lt_add4 Zone.lt_add5 Zone.lt_add6 Zone.lt_add7 Zone.lt_add8 Zone.lt_add9 Zone.lt_add10 Zone.lt_add11 Zone.lt_add12
def catO (a b : Option (List Nd)) : Option (List Nd) := match a, b with | some a, some b => some (a ++ b) | _, _ => none
/-- A filter's parts; none: it does not go by columns. -/
def partsOf (n : Nd) : Option (List Nd) :=
  if (colsOf n).length ≤ 1 then some [n] else if n.op = 1 then n.kids.attach.foldl (fun acc k => catO acc (partsOf k.1)) (some []) else none
termination_by SizeOf.sizeOf n
decreasing_by exact kid_lt k.2
def partsL (l : List Nd) : Option (List Nd) := l.foldl (fun acc k => catO acc (partsOf k)) (some [])
theorem partsOf_eq (n : Nd) : partsOf n = if (colsOf n).length ≤ 1 then some [n] else if n.op = 1 then partsL n.kids else none := by
  rw [partsOf]
  unfold partsL
  congr 2
  exact List.foldl_attach (l := n.kids) (f := fun acc k => catO acc (partsOf k)) (b := some [])
theorem partsL_take (l : List Nd) (i : Nat) (h : i < l.length) : partsL (l.take (i + 1)) = catO (partsL (l.take i)) (partsOf l[i]) := by
  unfold partsL
  rw [List.take_succ_eq_append_getElem h, List.foldl_append]
  rfl
theorem partsL_none : ∀ (l : List Nd), l.foldl (fun acc k => catO acc (partsOf k)) none = none
  | [] => rfl
  | k :: r => by
    simp only [List.foldl_cons]
    exact partsL_none r
theorem partsL_stop (l : List Nd) (i : Nat) (h : i < l.length) (hn : partsOf l[i] = none) : partsL l = none := by
  have h1 : partsL (l.take (i + 1)) = none := by
    rw [partsL_take l i h, hn]
    unfold catO
    split
    · rename_i h; cases h
    · rfl
  unfold partsL at h1 ⊢
  rw [← List.take_append_drop (i + 1) l, List.foldl_append, h1]
  exact partsL_none _
theorem partsL_sub : ∀ (l : List Nd) (a L : List Nd), l.foldl (fun acc k => catO acc (partsOf k)) (some a) = some L → ∃ r, L = a ++ r ∧ (∀ x ∈ r, ∃ k ∈ l, ∃ m, partsOf k = some m ∧ x ∈ m) ∧ ((∀ k ∈ l, ∀ m, partsOf k = some m → m.length ≤ k.sz) → r.length ≤ (l.map Nd.sz).sum)
  | [], a, L, h => by
    simp only [List.foldl_nil, Option.some.injEq] at h
    exact ⟨[], by simp [h], fun x hx => (by cases hx), fun _ => by simp⟩
  | k :: r, a, L, h => by
    simp only [List.foldl_cons] at h
    cases hk : partsOf k with
    | none =>
      rw [hk] at h
      have : catO (some a) none = none := rfl
      rw [this, partsL_none] at h
      cases h
    | some m =>
      rw [hk] at h
      have h2 : catO (some a) (some m) = some (a ++ m) := rfl
      rw [h2] at h
      obtain ⟨q, h3, h4, h5⟩ := partsL_sub r (a ++ m) L h
      refine ⟨m ++ q, by rw [h3, List.append_assoc], fun x hx => ?_, fun hs => ?_⟩
      · rcases List.mem_append.1 hx with hx | hx
        · exact ⟨k, List.mem_cons_self, m, hk, hx⟩
        · obtain ⟨k', hk', m', e1, e2⟩ := h4 x hx
          exact ⟨k', List.mem_cons_of_mem _ hk', m', e1, e2⟩
      · have h6 := hs k List.mem_cons_self m hk
        have h7 := h5 fun x hx m hm => hs x (List.mem_cons_of_mem _ hx) m hm
        simp only [List.length_append, List.map_cons, List.sum_cons]
        omega
theorem parts_len (n : Nd) : ∀ L, partsOf n = some L → L.length ≤ n.sz := by
  intro L h
  rw [partsOf_eq] at h
  rw [sz_eq]
  split at h
  · cases h; simp
  · split at h
    · obtain ⟨r, h1, _, h3⟩ := partsL_sub n.kids [] L h
      have := h3 fun k hk m hm => parts_len k m hm
      rw [h1]
      simp
      omega
    · cases h
termination_by SizeOf.sizeOf n
decreasing_by exact kid_lt hk
theorem parts_in {w : World} {b : Nat} {n : Nd} (hn : Nd.In w b n) : ∀ L, partsOf n = some L → ∀ x ∈ L, Nd.In w b x := by
  induction hn with
  | mk n hk hv hA hB hi ih =>
    intro L h x hx
    rw [partsOf_eq] at h
    split at h
    · cases h
      rw [List.mem_singleton.1 hx]
      exact .mk n hk hv hA hB hi
    · split at h
      · obtain ⟨r, h1, h2, _⟩ := partsL_sub n.kids [] L h
        rw [h1, List.nil_append] at hx
        obtain ⟨k, hk', m, e1, e2⟩ := h2 x hx
        exact ih k hk' m e1 x e2
      · cases h
theorem parts_szx (n : Nd) : ∀ L, partsOf n = some L → ∀ x ∈ L, x.sz ≤ n.sz := by
  intro L h x hx
  rw [partsOf_eq] at h
  split at h
  · cases h; rw [List.mem_singleton.1 hx]; exact Nat.le_refl _
  · split at h
    · obtain ⟨r, h1, h2, _⟩ := partsL_sub n.kids [] L h
      rw [h1, List.nil_append] at hx
      obtain ⟨k, hk, m, e1, e2⟩ := h2 x hx
      have h3 := parts_szx k m e1 x e2
      have h4 := sz_mem n.kids k hk
      rw [sz_eq n]; omega
    · cases h
termination_by SizeOf.sizeOf n
decreasing_by exact kid_lt hk
theorem nd_len (x : Nd) : x.cells.length = 5 := rfl
theorem nd_one (x : Nd) : ∀ u ∈ x.cells, u.oneCell' = true := by simp [Nd.cells, Value.oneCell']
theorem info_nd : (Tryz.prog.info? 27).map (fun i => (i.zero, i.size, i.bytes)) = some (some (.agg #[.int .u8 0, .slice none 0 0, .string ⟨#[]⟩, .int .u8 0, .slice none 0 0]), 5, 80) := by kernel_rfl
theorem elt_nd : Elt Tryz.prog 25 27 5 80 := by
  obtain ⟨i, hi, h1, h2, h3⟩ := info_partsK info_nd
  exact ⟨i, _, Tryz.underlying25, hi, h1, h2, h3, rfl, by decide, by decide⟩
abbrev OwnD (w : World) (base : Nat) (v : Value) (xs : List Nd) : Prop := Zone.Own w base 27 5 Nd.cells v xs
/-- What parts gives. -/
def PartsR (base : Nat) (n : Nd) (v : Value) (ok : Bool) (W : World) : Prop := (ok = false ∧ partsOf n = none ∧ v = .slice none 0 0) ∨ (ok = true ∧ ∃ L, partsOf n = some L ∧ OwnD W base v L)
theorem own_lit {α : Type} {enc : α → List Value} {k : Nat} {e : TypeId} (W : World) (base : Nat) (xs : List α) (hk : ∀ x, (enc x).length = k) (hb : base ≤ W.heap.size) (hx : xs.length ≤ 1000) :
    Zone.Own (W.alloc (.cells (xs.flatMap enc).toArray e)) base e k enc (.slice (some ⟨W.heap.size, 0, none⟩) xs.length xs.length) xs :=
  ⟨flat_len hk xs, .inr ⟨W.heap.size, xs.length, (xs.flatMap enc).toArray, rfl, hb, by show (W.heap.push _)[W.heap.size]? = _; exact Array.getElem?_push_size, Nat.le_refl _, by unfold maxLen; omega, by simp [flat_len hk xs], by
    rw [List.toList_toArray, ← flat_len hk xs, List.take_length]⟩⟩
set_option maxRecDepth 100000 in
set_option maxHeartbeats 4000000 in
theorem parts_f (w0 : World) (b0 : Nat) (n : Nd) (hn : Nd.In w0 b0 n) : ∀ (w : World), Keep w0 w → n.sz ≤ 1000000 →
    Calls Tryz.prog 31 #[n.v] w fun e w' => ∃ v ok, e = .returned (.tuple #[v, .bool ok]) ∧ PartsR w.heap.size n v ok w' ∧ Keep w w' := by
  induction hn with
  | mk n hk hv hA hB hi ih =>
  intro w hk0 hsz
  have HS := Lib.hid (hk.keep hk0)
  have hkl := hk.len
  have hvl := hv.len
  have HCOL := Lib.hid (fun W (hW : Keep w W) => columns_any w0 b0 n (.mk n hk hv hA hB hi) W (hk0.trans hW) hsz)
  have HCL := Lib.hid (Nat.le_trans (cols_len n) hsz)
  have HPL := Lib.hid (fun k hk L hL => parts_len k L hL : ∀ k ∈ n.kids, ∀ L, partsOf k = some L → L.length ≤ k.sz)
  have HZ := Lib.hid (show (n.kids.map Nd.sz).sum ≤ 1000000 by have := sz_eq n; omega)
  have IH := Lib.hid (show ∀ k ∈ n.kids, ∀ W, Keep w W → Calls Tryz.prog 31 #[k.v] W fun e w' => ∃ v ok, e = .returned (.tuple #[v, .bool ok]) ∧ PartsR W.heap.size k v ok w' ∧ Keep W w' from
    fun k hk W hW => ih k hk W (hk0.trans hW) (by have := sz_mem n.kids k hk; have := HZ.out; omega))
  have HE := Lib.hid (partsOf_eq n)
  obtain ⟨nn, hnn⟩ : ∃ nn, n = nn := ⟨_, rfl⟩
  have HNN := Lib.hid hnn
  clear hk hv hA hB hi ih hk0 hsz hnn
  have e0 : n.v = .agg #[.int .u8 n.op, .slice n.A n.kids.length n.c, .string n.col, .int .u8 n.cmp, .slice n.B n.vals.length n.d] := rfl
  rw [e0] at HCOL ⊢
  obtain ⟨cl, hcl⟩ : ∃ cl, colsOf n = cl := ⟨_, rfl⟩
  rw [hcl] at HCOL HCL HE
  clear hcl e0
  by_cases h1 : cl.length ≤ 1
  · have hE := HE.out
    rw [if_pos h1] at hE
    have HE2 := Lib.hid hE
    have d1 : decide ((cl.length : Int) ≤ 1) = true := by simp; omega
    clear hE HE
    go_enter Tryz.func31, Tryz.ntmps31
    go_wp2_with (go_at_call 32; refine Zone.hold ?_)
    refine Zone.unhold ?_
    refine (HCOL.out _ (by repeat (first | exact Keep.refl _ | apply Keep.alloc | apply Keep.gro | apply Keep.drew | apply Keep.drewN))).mono ?_
    rintro e w2 ⟨v2, rfl, hown, hk⟩
    obtain ⟨A2, c2, rfl, _⟩ := hown.sl nm_len (by have := HCL.out; omega)
    obtain ⟨p, rfl⟩ := gro_of_below _ hk
    clear hown hk
    go_wp2
    refine bodyPost_ret (v := .tuple #[.slice (some ⟨w.heap.size + 1 + p.os.size, 0, none⟩) 1 1, .bool true]) (by simp [results, Tryz.results31, go_sem]) rfl ⟨_, true, rfl, .inr ⟨rfl, [n], HE2.out, ?_⟩, (by repeat (first | exact Keep.refl _ | apply Keep.alloc | apply Keep.gro | apply Keep.drew | apply Keep.drewN))⟩
    have := own_lit (enc := Nd.cells) (k := 5) (e := 27) ((w.alloc (.cells #[.int .u8 n.op, .slice n.A n.kids.length n.c, .string n.col, .int .u8 n.cmp, .slice n.B n.vals.length n.d] 27)).gro p) w.heap.size [n] (fun _ => rfl) (by simp [size_gro]; omega) (by simp)
    simp only [size_gro, World.size_alloc, List.length_singleton] at this
    exact this
  · have hE := HE.out
    rw [if_neg h1] at hE
    have d1 : decide ((cl.length : Int) ≤ 1) = false := by simp; omega
    have d1' : decide (cl.length ≤ 1) = false := by simp; omega
    by_cases h2 : n.op = 1
    · rw [if_pos h2] at hE
      have HE2 := Lib.hid hE
      have d2 : (n.op != 1) = false := by simp [h2]
      clear hE HE h1 h2
      go_enter Tryz.func31, Tryz.ntmps31
      go_wp2_with (go_at_call 32; refine Zone.hold ?_)
      refine Zone.unhold ?_
      refine (HCOL.out _ (by repeat (first | exact Keep.refl _ | apply Keep.alloc | apply Keep.gro | apply Keep.drew | apply Keep.drewN))).mono ?_
      rintro e w2 ⟨v2, rfl, hown, hk⟩
      obtain ⟨A2, c2, rfl, _⟩ := hown.sl nm_len (by have := HCL.out; omega)
      obtain ⟨p, rfl⟩ := gro_of_below _ hk
      clear hown hk
      go_wp2
      go_loopw [2, 20] (fun v i wr => ∃ k : Nat, k ≤ n.kids.length ∧ i = .int .i64 k ∧ ∃ L, Hid (partsL (n.kids.take k) = some L) ∧ Hid (OwnD wr (w.heap.size + 1) v L) ∧ Hid (Keep w wr) ∧ w.heap.size < wr.heap.size) (fun _ i _ => n.kids.length - (intOf i).toNat)
      case atStart => exact ⟨0, Nat.zero_le _, rfl, [], rfl, Own.nil_ _ _ _ _ _, (by repeat (first | exact Keep.refl _ | apply Keep.alloc | apply Keep.gro | apply Keep.drew | apply Keep.drewN)), by simp [size_gro]; omega⟩
      case round =>
        obtain ⟨k, hk, rfl, L, HL, HO, HK, hz⟩ := hrel
        by_cases hlt : k < n.kids.length
        · obtain ⟨g, off, hA9, hg, h0, h1, h2, h3, h4⟩ := sl_nd (HS.out.keep HK.out) k hlt
          have hHS := HS.out
          have HC := Lib.hid (fun W (hW : Keep wr W) => IH.out n.kids[k] (List.getElem_mem hlt) W (HK.out.trans hW))
          have HPT := Lib.hid (partsL_take n.kids k hlt)
          have HST := Lib.hid (partsL_stop n.kids k hlt)
          have HPK := Lib.hid (show ∀ L, partsOf n.kids[k] = some L → L.length ≤ n.kids[k].sz from HPL.out n.kids[k] (List.getElem_mem hlt))
          have HSK := Lib.hid (sz_mem n.kids n.kids[k] (List.getElem_mem hlt))
          have HLL := Lib.hid (show L.length ≤ 1000000 by
            obtain ⟨r, e1, _, e3⟩ := partsL_sub (n.kids.take k) [] L HL.out
            have e4 := e3 fun x hx m hm => HPL.out x (List.mem_of_mem_take hx) m hm
            have e5 := sz_take n.kids k
            have e6 := HZ.out
            rw [e1, List.nil_append]; omega)
          clear hHS
          go_wp2_with (go_at_call 31; refine Zone.hold ?_)
          refine Zone.unhold ?_
          refine (HC.out _ (by repeat (first | exact Keep.refl _ | apply Keep.alloc | apply Keep.gro | apply Keep.drew | apply Keep.drewN))).mono ?_
          rintro e w5 ⟨v5, ok5, rfl, hr5, hk5⟩
          obtain ⟨p5, rfl⟩ := gro_of_below _ hk5
          rcases hr5 with ⟨rfl, hn5, rfl⟩ | ⟨rfl, L5, hp5, ho5⟩
          · have HN5 := Lib.hid (HE2.out.trans (HST.out hn5))
            clear hk5 hn5
            go_wp2
            exact bodyPost_ret (v := .tuple #[.slice none 0 0, .bool false]) (by simp [results, Tryz.results31, go_sem]) rfl ⟨_, false, rfl, .inl ⟨rfl, HN5.out, rfl⟩, HK.out.trans (by repeat (first | exact Keep.refl _ | apply Keep.alloc | apply Keep.gro | apply Keep.drew | apply Keep.drewN))⟩
          · have hl5 := HPK.out L5 hp5
            obtain ⟨A5, c5, rfl, hs5⟩ := ho5.sl nd_len (by have := HSK.out; have := HZ.out; omega)
            have HP5 := Lib.hid (show partsL (n.kids.take (k + 1)) = some (L ++ L5) by rw [HPT.out, HL.out, hp5]; rfl)
            have HS5 := Lib.hid hs5
            have HL5 := Lib.hid hl5
            have hk6 : Keep wr ((wr.alloc (.cells #[.int .u8 n.kids[k].op, .slice n.kids[k].A n.kids[k].kids.length n.kids[k].c, .string n.kids[k].col, .int .u8 n.kids[k].cmp, .slice n.kids[k].B n.kids[k].vals.length n.kids[k].d] 27)).gro p5) := Keep.trans ((Keep.refl _).alloc _) hk5
            have hz6 : w.heap.size < ((wr.alloc (.cells #[.int .u8 n.kids[k].op, .slice n.kids[k].A n.kids[k].kids.length n.kids[k].c, .string n.kids[k].col, .int .u8 n.kids[k].cmp, .slice n.kids[k].B n.kids[k].vals.length n.kids[k].d] 27)).gro p5).heap.size := Nat.lt_of_lt_of_le hz hk6.size
            have HK6 := Lib.hid (HK.out.trans hk6)
            have HO6 := Lib.hid (HO.out.keep hk6)
            clear hk5 hk6 hp5 ho5 hs5 hl5 h0 h1 h2 h3 h4 hg HC HPK HST HPT HK HO hz hA9
            generalize World.gro _ _ = w6 at hz6 HK6 HO6 HS5 ⊢
            go_wp2_with (at_builtin; refine Zone.hold ?_)
            refine Zone.unhold ?_
            refine wpList_app elt_nd nd_len nd_one rfl (.tmp 31) (.tmp 32) rfl (ys := L5) HO6.out rfl rfl HS5.out (by have := HLL.out; have := HL5.out; have := HSK.out; have := HZ.out; omega) (by omega) ?_
            intro v1 w7 hown7 hg7 _
            have hob := fun j hj => HO6.out.lt j hj
            have HK7 := Lib.hid (HK6.out.grown hg7 (fun j e => by have := (hob _ e).1; omega))
            have HO7 := Lib.hid hown7
            have hz7 : w.heap.size < w7.heap.size := Nat.lt_of_lt_of_le hz6 hg7.size
            clear hown7 hg7 hob HO6 HS5 HK6 hz6
            go_wp2
            go_roundw
            case rel => exact ⟨k + 1, by omega, by go_num, _, HP5.out, HO7.out, HK7.out, hz7⟩
            case measure => simp [intOf]; omega
        · have : k = n.kids.length := by omega
          subst this
          rw [List.take_length] at HL
          have HN5 := Lib.hid (HE2.out.trans HL.out)
          have HLL := Lib.hid (show L.length ≤ 1000000 by
            obtain ⟨r, e1, _, e3⟩ := partsL_sub n.kids [] L HL.out
            have e4 := e3 HPL.out
            have e6 := HZ.out
            rw [e1, List.nil_append]; omega)
          obtain ⟨A5, c5, rfl, _⟩ := HO.out.sl nd_len (by have := HLL.out; omega)
          go_wp2
          exact bodyPost_ret (v := .tuple #[.slice A5 L.length c5, .bool true]) (by simp [results, Tryz.results31, go_sem]) rfl ⟨_, true, rfl, .inr ⟨rfl, L, HN5.out, HO.out.base_mono (by omega)⟩, HK.out⟩
    · rw [if_neg h2] at hE
      have HE2 := Lib.hid hE
      have d2 : (n.op != 1) = true := by simp [h2]
      clear hE HE h1 h2
      go_enter Tryz.func31, Tryz.ntmps31
      go_wp2_with (go_at_call 32; refine Zone.hold ?_)
      refine Zone.unhold ?_
      refine (HCOL.out _ (by repeat (first | exact Keep.refl _ | apply Keep.alloc | apply Keep.gro | apply Keep.drew | apply Keep.drewN))).mono ?_
      rintro e w2 ⟨v2, rfl, hown, hk⟩
      obtain ⟨A2, c2, rfl, _⟩ := hown.sl nm_len (by have := HCL.out; omega)
      obtain ⟨p, rfl⟩ := gro_of_below _ hk
      clear hown hk
      go_wp2
      exact bodyPost_ret (v := .tuple #[.slice none 0 0, .bool false]) (by simp [results, Tryz.results31, go_sem]) rfl ⟨_, false, rfl, .inl ⟨rfl, HE2.out, rfl⟩, (by repeat (first | exact Keep.refl _ | apply Keep.alloc | apply Keep.gro | apply Keep.drew | apply Keep.drewN))⟩
end Go.Proofs.YthigflnfccajoaaGreat
/- Names in order: what sorting and compacting give. -/
namespace Go.Proofs.YthigflnfccajoaaGreat
theorem nm_trans {a b c : Nm} (h : a ≤ b) (k : b ≤ c) : a ≤ c := List.le_trans h k
theorem nm_total (a b : Nm) : a ≤ b ∨ b ≤ a := List.le_total a b
theorem nm_anti {a b : Nm} (h : a ≤ b) (k : b ≤ a) : a = b := List.le_antisymm h k
theorem sortN_sorted (xs : List Nm) : (sortN xs).Pairwise (· ≤ ·) := by
  have := List.pairwise_mergeSort (le := fun x y : Nm => decide (x ≤ y)) (fun a b c h k => by simp only [decide_eq_true_eq] at *; exact nm_trans h k) (fun a b => by have := nm_total a b; simpa using this) xs
  simpa [sortN] using this
theorem sortN_mem (xs : List Nm) (x : Nm) : x ∈ sortN xs ↔ x ∈ xs := List.mem_mergeSort
def LtN (a b : Nm) : Prop := a ≤ b ∧ a ≠ b
theorem comp_inv (d : Array Nm) (hs : ∀ i j, i ≤ j → j < d.size → d[i]! ≤ d[j]!) : ∀ m, m ≤ d.size → (Lib.compactUpTo d m).Pairwise LtN ∧ (∀ x, x ∈ Lib.compactUpTo d m ↔ ∃ j, j < m ∧ x = d[j]!)
  | 0, _ => ⟨by simp [Lib.compactUpTo], fun x => by simp [Lib.compactUpTo]⟩
  | m + 1, hm => by
    obtain ⟨h1, h2⟩ := comp_inv d hs m (by omega)
    rw [Lib.compactUpTo_succ]
    by_cases hk : Lib.keeps d m = true
    · rw [if_pos hk]
      refine ⟨List.pairwise_append.2 ⟨h1, by simp, fun x hx y hy => ?_⟩, fun x => ?_⟩
      · rw [List.mem_singleton.1 hy]
        obtain ⟨j, hj, rfl⟩ := (h2 x).1 hx
        refine ⟨hs j m (by omega) (by omega), fun e => ?_⟩
        have h3 : m = 0 ∨ d[m]! ≠ d[m - 1]! := by simpa [Lib.keeps] using hk
        rcases h3 with h3 | h3
        · omega
        · exact h3 (nm_anti (e ▸ hs j (m - 1) (by omega) (by omega)) (hs (m - 1) m (by omega) (by omega)))
      · rw [List.mem_append, List.mem_singleton, h2]
        constructor
        · rintro (⟨j, hj, rfl⟩ | rfl)
          · exact ⟨j, by omega, rfl⟩
          · exact ⟨m, by omega, rfl⟩
        · rintro ⟨j, hj, rfl⟩
          by_cases e : j = m
          · subst e; exact .inr rfl
          · exact .inl ⟨j, by omega, rfl⟩
    · rw [if_neg hk, List.append_nil]
      refine ⟨h1, fun x => ?_⟩
      rw [h2]
      have h3 : ¬ (m = 0 ∨ d[m]! ≠ d[m - 1]!) := by simpa [Lib.keeps] using hk
      have h4 : m ≠ 0 := fun e => h3 (.inl e)
      have h5 : d[m]! = d[m - 1]! := Classical.byContradiction fun e => h3 (.inr e)
      constructor
      · rintro ⟨j, hj, rfl⟩; exact ⟨j, by omega, rfl⟩
      · rintro ⟨j, hj, rfl⟩
        by_cases e : j = m
        · subst e; exact ⟨j - 1, by omega, h5⟩
        · exact ⟨j, by omega, rfl⟩
theorem compN_sorted (xs : List Nm) (h : xs.Pairwise (· ≤ ·)) : (compN xs).Pairwise LtN ∧ ∀ x, x ∈ compN xs ↔ x ∈ xs := by
  have h1 := comp_inv xs.toArray (fun i j hij hj => by
    have hj' : j < xs.length := by simpa using hj
    rw [getElem!_pos _ i (by simp; omega), getElem!_pos _ j hj]
    simp only [List.getElem_toArray]
    rcases Nat.lt_or_eq_of_le hij with h2 | h2
    · exact List.pairwise_iff_getElem.1 h i j (by omega) hj' h2
    · subst h2; exact List.le_refl _) xs.length (by simp)
  refine ⟨h1.1, fun x => (h1.2 x).trans ?_⟩
  constructor
  · rintro ⟨j, hj, rfl⟩
    rw [getElem!_pos _ j (by simpa using hj)]
    simp
  · intro hx
    obtain ⟨j, hj, rfl⟩ := List.getElem_of_mem hx
    exact ⟨j, hj, by rw [getElem!_pos _ j (by simpa using hj)]; simp⟩
theorem cols_sorted (n : Nd) : (colsOf n).Pairwise LtN := by
  rw [colsOf_eq]
  split
  · simp
  · exact (compN_sorted _ (sortN_sorted _)).1
theorem cols_nodup (n : Nd) : (colsOf n).Nodup := (cols_sorted n).imp fun h => h.2
theorem cols_mem (n : Nd) (s : Nm) : s ∈ colsOf n ↔ (if n.op = 4 then s = n.col.data.toList else ∃ k ∈ n.kids, s ∈ colsOf k) := by
  rw [colsOf_eq]
  split
  · simp
  · rw [(compN_sorted _ (sortN_sorted _)).2, sortN_mem, List.mem_flatMap]
/-- A part's columns are the filter's. -/
theorem parts_cols (n : Nd) : ∀ L, partsOf n = some L → (∀ x ∈ L, (colsOf x).length ≤ 1) ∧ ∀ x ∈ L, ∀ s ∈ colsOf x, s ∈ colsOf n := by
  intro L h
  rw [partsOf_eq] at h
  split at h
  · rename_i h1
    cases h
    exact ⟨fun x hx => by rw [List.mem_singleton.1 hx]; exact h1, fun x hx s hs => by rw [List.mem_singleton.1 hx] at hs; exact hs⟩
  · split at h
    · rename_i h2
      obtain ⟨r, h1, h3, _⟩ := partsL_sub n.kids [] L h
      rw [h1, List.nil_append]
      refine ⟨fun x hx => ?_, fun x hx s hs => ?_⟩
      · obtain ⟨k, hk, m, e1, e2⟩ := h3 x hx
        exact (parts_cols k m e1).1 x e2
      · obtain ⟨k, hk, m, e1, e2⟩ := h3 x hx
        rw [cols_mem, if_neg (by omega)]
        exact ⟨k, hk, (parts_cols k m e1).2 x e2 s hs⟩
    · cases h
termination_by SizeOf.sizeOf n
decreasing_by all_goals exact kid_lt hk
end Go.Proofs.YthigflnfccajoaaGreat
