
/- The outputs' kinds: query.Kinds. -/
import Derived.WalkKit
import Derived.Lib.Hide
import Derived.WalkSpells
import Derived.WalkLawsBesides
import Derived.BigQuiet
import Derived.Shelf.Abstract
import Derived.Test.YthigflnfccajoaaQval
import Derived.Test.YthigflnfccajoaaOpen
namespace Go.Proofs.Ythigflnfccajoaa
open Go.RowKit Go.Zone Go.Shelf
attribute [local go_sem] Zone.zone Zone.stepZ Zone.fill Zone.lookFs Zone.goes Zone.goesUpon Zone.dropFs Zone.cell_gro Zone.frozen_gro Zone.size_gro Zone.lt_add Zone.drew_gro Zone.tape_gro Zone.keep_refl
attribute [local go_sem] Zone.lt_add2 Zone.lt_add3 Zone.lt_add4 Zone.lt_add5 Zone.lt_add6 Zone.lt_add7 Zone.lt_add8 Zone.lt_add9 Zone.lt_add10 Zone.lt_add11 Zone.lt_add12
structure Ky where
  out : Int
  desc : Bool
def Ky.cells (k : Ky) : List Value := [.int .i64 k.out, .bool k.desc]
/-- A question, as it lies in memory. -/
structure Qr where
  f : Nd
  bA : Option Addr
  bc : Nat
  by_ : List ByteArray
  aA : Option Addr
  ac : Nat
  aggs : List Ag
  h : Ts
  oA : Option Addr
  oc : Nat
  order : List Ky
  limit : Int
@[reducible] def Qr.val (q : Qr) : Value := .agg #[.int .u8 q.f.op, .slice q.f.A q.f.kids.length q.f.c, .string q.f.col, .int .u8 q.f.cmp, .slice q.f.B q.f.vals.length q.f.d, .slice q.bA q.by_.length q.bc, .slice q.aA q.aggs.length q.ac,
  .int .u8 q.h.op, .slice q.h.A q.h.kids.length q.h.c, .int .i64 q.h.out, .int .u8 q.h.cmp, .int .u8 q.h.v.k, .int .i64 q.h.v.n, .string q.h.v.s, .slice q.oA q.order.length q.oc, .int .i64 q.limit]
theorem info_k : (Try.prog.info? 5).map (fun i => (i.zero, i.size, i.bytes)) = some (some (.int .u8 0), 1, 1) := by kernel_rfl
theorem info_partsK {o : Option TypeInfo} {z : Value} {n m : Nat} (h : o.map (fun i => (i.zero, i.size, i.bytes)) = some (some z, n, m)) : ∃ i, o = some i ∧ i.zero = some z ∧ i.size = n ∧ i.bytes = m := by
  cases o with
  | none => cases h
  | some i => simp at h; exact ⟨i, rfl, h.1, h.2.1, h.2.2⟩
theorem elt_k : Elt Try.prog 58 5 1 1 := by
  obtain ⟨i, hi, h1, h2, h3⟩ := info_partsK info_k
  exact ⟨i, _, Try.underlying58, hi, h1, h2, h3, rfl, by decide, by decide⟩
theorem k_len (x : Int) : (byteK x).length = 1 := rfl
theorem k_one (x : Int) : ∀ u ∈ byteK x, u.oneCell' = true := by simp [byteK, Value.oneCell']
theorem k_at (x : Int) {w : World} {g : Nat} (h0 : w.cell? ⟨g, 0, none⟩ = some (.int .u8 x)) : ∀ j u, (byteK x)[j]? = some u → w.cell? ⟨g, j, none⟩ = some u
  | 0, u, hu => by cases hu; exact h0
abbrev OwnK (w : World) (base : Nat) (v : Value) (bs : List Int) : Prop := Own w base 5 1 byteK v bs
def kindB (cols : List Col) (s : ByteArray) : Int := if (findC cols s).2 then kindC (findC cols s).1.kind else 0
def kindsQ (cols : List Col) (bs : List ByteArray) (n : Nat) : List Int := bs.map (kindB cols) ++ List.replicate n 1
theorem kinds_take (cols : List Col) (bs : List ByteArray) (k : Nat) (h : k < bs.length) : (bs.take (k + 1)).map (kindB cols) = (bs.take k).map (kindB cols) ++ [kindB cols bs[k]] := by
  rw [List.take_succ_eq_append_getElem h, List.map_append]; rfl
theorem kinds_rep (l : List Int) (k : Nat) : l ++ List.replicate (k + 1) 1 = (l ++ List.replicate k 1) ++ [1] := by
  rw [List.append_assoc, List.replicate_succ']
set_option maxHeartbeats 4000000 in
theorem kinds_any (q : Qr) (A : Option Addr) (c : Nat) (cols : List Col) (w : World) (hc : Sl w 2 Col.cells A c cols) (hb : Sl w 1 strK q.bA q.bc q.by_) (ha : Sl w 2 Ag.cells q.aA q.ac q.aggs) (hl : q.by_.length + q.aggs.length ≤ 140000000000000) :
    Calls Try.prog 15 #[.slice A cols.length c, q.val] w fun r w' => ∃ v, r = .returned v ∧ OwnK w' w.heap.size v (kindsQ cols q.by_ q.aggs.length) ∧ Keep w w' := by
  have HC := Lib.hid hc
  have HB := Lib.hid hb
  clear hc hb ha
  obtain ⟨f, bA, bc, bs, aA, ac, ags, h, oA, oc, order, limit⟩ := q
  simp only [Qr.val] at hl HB ⊢
  go_enter Try.func15, Try.ntmps15
  go_wp2
  go_loopw [5, 7, 8, 9, 13] (fun v _ _ _ i wr => ∃ k : Nat, k ≤ bs.length ∧ i = .int .i64 k ∧ Hid (OwnK wr (w.heap.size + 1) v ((bs.take k).map (kindB cols))) ∧ Hid (Keep w wr) ∧ wr.cell? ⟨w.heap.size, 6, none⟩ = some (.slice aA ags.length ac)) (fun _ _ _ _ i _ => bs.length - (intOf i).toNat)
  case atStart => exact ⟨0, Nat.zero_le _, rfl, Own.nil_ _ _ _ _ _, (by repeat (first | exact Keep.refl _ | apply Keep.alloc | apply Keep.gro | apply Keep.drew | apply Keep.drewN)), by simp [go_sem]⟩
  case round =>
    obtain ⟨k, hk, rfl, HO, HK, hx6⟩ := hrel
    have hz := World.block_lt_of_cell? _ _ hx6
    simp only at hz
    by_cases hlt : k < bs.length
    · obtain ⟨g, off, rfl, hg, h0⟩ := sl_str (HB.out.keep HK.out) k hlt
      have HF := Lib.hid (fun W (hW : Keep w W) => find_any A c cols bs[k] W (HC.out.keep hW))
      have HT := Lib.hid (kinds_take cols bs k hlt)
      generalize hf : findC cols bs[k] = fr at HF
      have HKB : Hid (kindB cols bs[k] = if fr.2 then kindC fr.1.kind else 0) := by show _ = _; unfold kindB; rw [hf]
      obtain ⟨⟨nm, kd⟩, has⟩ := fr
      simp only at HF HKB
      clear hf
      cases has
      · go_wp2_with (first | (go_at_call 50; refine (HF.out _ HK.out).mono ?_; rintro e w' ⟨rfl, hk⟩; obtain ⟨p, rfl⟩ := gro_of_below _ hk; clear hk) | (at_builtin; refine Zone.hold ?_))
        refine Zone.unhold ?_
        have HO1 : OwnK (((wr.gro p).alloc (.cells #[.string nm, .int .u8 kd] 24)).alloc (.cells #[.int .u8 0] 5)) (w.heap.size + 1) u5 ((bs.take k).map (kindB cols)) := HO.out.keep (by repeat (first | exact Keep.refl _ | apply Keep.alloc | apply Keep.gro | apply Keep.drew | apply Keep.drewN))
        refine wpList_app elt_k k_len k_one rfl (.tmp 29) (.tmp 30) rfl (ys := [0]) HO1 rfl rfl (Zone.sl_one _ (by omega) (by omega) (k_at _ (by simp [go_sem]))) (by simp; omega) (by simp [size_gro]; omega) ?_
        intro v1 w2 hown2 hg2 _
        have ⟨a1, a2, a3⟩ := HO1.after (w := w) hg2 (HK.out.trans (by repeat (first | exact Keep.refl _ | apply Keep.alloc | apply Keep.gro | apply Keep.drew | apply Keep.drewN))) (by omega)
        have HO4 := Lib.hid hown2
        have HA1 := Lib.hid a1
        have hx7 := a3 ⟨w.heap.size, 6, none⟩ (.slice aA ags.length ac) (Nat.lt_succ_self _) (by simp [go_sem, hx6, hz])
        clear hown2 hg2 HO1 a3 HF
        go_wp2
        go_roundw
        case rel => exact ⟨k + 1, by omega, by go_num, (by show OwnK _ _ _ _; rw [HT.out, HKB.out]; exact HO4.out), HA1.out, hx7⟩
        case measure => simp [intOf]; omega
      · go_wp2_with (first | (go_at_call 50; refine (HF.out _ HK.out).mono ?_; rintro e w' ⟨rfl, hk⟩; obtain ⟨p, rfl⟩ := gro_of_below _ hk; clear hk) | (go_at_call 51; refine (kind_any ⟨nm, kd⟩ _).mono ?_; rintro e w' ⟨rfl, hk⟩; (first | obtain ⟨p, rfl⟩ := Zone.gro_of_gro _ _ hk | obtain ⟨p, rfl⟩ := Zone.gro_of_below _ hk); clear hk) | (at_builtin; refine Zone.hold ?_))
        refine Zone.unhold ?_
        rename_i p1
        have HO1 : OwnK ((((wr.gro p1).alloc (.cells #[.string nm, .int .u8 kd] 24)).gro p).alloc (.cells #[.int .u8 (kindC kd)] 5)) (w.heap.size + 1) u5 ((bs.take k).map (kindB cols)) := HO.out.keep (by repeat (first | exact Keep.refl _ | apply Keep.alloc | apply Keep.gro | apply Keep.drew | apply Keep.drewN))
        refine wpList_app elt_k k_len k_one rfl (.tmp 24) (.tmp 27) rfl (ys := [kindC kd]) HO1 rfl rfl (Zone.sl_one _ (by omega) (by omega) (k_at _ (by simp [go_sem]))) (by simp; omega) (by simp [size_gro]; omega) ?_
        intro v1 w2 hown2 hg2 _
        have ⟨a1, a2, a3⟩ := HO1.after (w := w) hg2 (HK.out.trans (by repeat (first | exact Keep.refl _ | apply Keep.alloc | apply Keep.gro | apply Keep.drew | apply Keep.drewN))) (by omega)
        have HO4 := Lib.hid hown2
        have HA1 := Lib.hid a1
        have hkb := HKB.out
        simp only [if_true] at hkb
        have HKC := Lib.hid hkb
        have hx7 := a3 ⟨w.heap.size, 6, none⟩ (.slice aA ags.length ac) (Nat.lt_succ_self _) (by simp [go_sem, hx6, hz])
        clear hown2 hg2 HO1 a3 HF hkb
        go_wp2
        go_roundw
        case rel => exact ⟨k + 1, by omega, by go_num, (by show OwnK _ _ _ _; rw [HT.out, HKC.out]; exact HO4.out), HA1.out, hx7⟩
        case measure => simp [intOf]; omega
    · have : k = bs.length := by omega
      subst this
      rw [List.take_length] at HO
      have HKI := HK
      generalize hw2 : wr = w2 at HO HK hx6 hz ⊢
      clear hw2 HKI
      go_wp2
      go_loopw [5, 36] (fun v i wr => ∃ k : Nat, k ≤ ags.length ∧ i = .int .i64 k ∧ Hid (OwnK wr (w.heap.size + 1) v (bs.map (kindB cols) ++ List.replicate k 1)) ∧ Hid (Keep w wr) ∧ w.heap.size < wr.heap.size) (fun _ i _ => ags.length - (intOf i).toNat)
      case atStart => exact ⟨0, Nat.zero_le _, rfl, (by show OwnK _ _ _ _; simpa using HO.out), HK.out, hz⟩
      case round =>
        rename_i wq
        obtain ⟨k, hk, rfl, HO, HK, hz⟩ := hrel
        by_cases hlt : k < ags.length
        · go_wp2_with (at_builtin; refine Zone.hold ?_)
          refine Zone.unhold ?_
          have HO1 : OwnK (wr.alloc (.cells #[.int .u8 1] 5)) (w.heap.size + 1) u5 (bs.map (kindB cols) ++ List.replicate k 1) := HO.out.keep (by repeat (first | exact Keep.refl _ | apply Keep.alloc | apply Keep.gro | apply Keep.drew | apply Keep.drewN))
          refine wpList_app elt_k k_len k_one rfl (.tmp 38) (.tmp 39) rfl (ys := [1]) HO1 rfl rfl (Zone.sl_one _ (by omega) (by omega) (k_at _ (by simp [go_sem]))) (by simp; omega) (by simp [size_gro]; omega) ?_
          intro v1 w5 hown2 hg2 _
          have ⟨a1, a2, a3⟩ := HO1.after (w := w) hg2 (HK.out.trans (by repeat (first | exact Keep.refl _ | apply Keep.alloc | apply Keep.gro | apply Keep.drew | apply Keep.drewN))) (by omega)
          have HO4 := Lib.hid hown2
          have HA1 := Lib.hid a1
          clear hown2 hg2 HO1 a3
          go_wp2
          go_roundw
          case rel => exact ⟨k + 1, by omega, by go_num, (by show OwnK _ _ _ _; rw [kinds_rep]; exact HO4.out), HA1.out, by simp at a2; omega⟩
          case measure => simp [intOf]; omega
        · have : k = ags.length := by omega
          subst this
          go_wp2
          go_ret
          exact ⟨_, rfl, (Own.base_mono HO.out (by omega)), HK.out⟩
end Go.Proofs.Ythigflnfccajoaa
