
/- The maker: put; the numeral of nought; what stands where blocks turn. -/
import Derived.WalkKit
import Derived.Lib.Hide
import Derived.WalkSpells
import Derived.WalkLawsBesides
import Derived.BigQuiet
import Derived.Shelf.Abstract
import Derived.Test.YtmcaednlilhnoaaGreatDoorJj
import Derived.Test.YtmcaednlilhnoaaGreatDoorBe3
namespace Go.Zone
theorem Turn.cell {w w' : World} {S : List Nat} {p : Addr} {u : Value} (ht : Turn w w' S) (h : w.cell? p = some u) (hn : p.block ∉ S) : w'.cell? p = some u := by
  have hb := ht.block p.block (World.block_lt_of_cell? w _ h) hn
  unfold World.cell? at h ⊢
  rw [hb]
  exact h
theorem Sl.turn {α : Type} {w w' : World} {k c : Nat} {enc : α → List Value} {A : Option Addr} {xs : List α} {S : List Nat} (h : Sl w k enc A c xs) (ht : Turn w w' S) (hs : ∀ b off, A = some ⟨b, off, none⟩ → b ∉ S) : Sl w' k enc A c xs :=
  ⟨h.cap, h.big, h.len, fun i hi => by
    obtain ⟨b, off, hA, hc⟩ := h.at_ i hi
    exact ⟨b, off, hA, fun j u hu => ht.cell (hc j u hu) (hs b off hA)⟩⟩
end Go.Zone
namespace Go.Proofs.YtmcaednlilhnoaaGreatDoor
open Go.RowKit Go.Zone Go.Shelf
attribute [local go_sem] Zone.zone Zone.stepZ Zone.fill Zone.lookFs Zone.goes Zone.goesUpon Zone.dropFs Zone.cell_gro Zone.frozen_gro Zone.size_gro Zone.lt_add Zone.drew_gro Zone.tape_gro Zone.keep_refl
attribute [local go_sem] Zone.lt_add2 Zone.lt_add3 Zone.lt_add4 Zone.lt_add5 Zone.lt_add6 Zone.lt_add7 Zone.lt_add8 Zone.lt_add9 Zone.lt_add10 Zone.lt_add11 Zone.lt_add12
theorem small_zero (w : World) : Calls Tryz.prog 217 #[.int .i64 0] w fun e w' => e = .returned (.string ⟨#[48]⟩) ∧ Keep w w' := by
  go_enter Tryz.func217, Tryz.ntmps217
  go_wp2
  go_ret
  exact ⟨rfl, (by repeat (first | exact Keep.refl _ | apply Keep.alloc | apply Keep.gro | apply Keep.drew | apply Keep.drewN))⟩
theorem fmt_zero (w : World) : Calls Tryz.prog 176 #[.int .i64 0, .int .i64 10] w fun e w' => e = .returned (.string ⟨#[48]⟩) ∧ Keep w w' := by
  go_enter Tryz.func176, Tryz.ntmps176
  go_wp2_with (go_at_call 217; refine (small_zero _).mono ?_; rintro e w' ⟨rfl, hk⟩; (first | obtain ⟨p, rfl⟩ := Zone.gro_of_gro _ _ hk | obtain ⟨p, rfl⟩ := Zone.gro_of_below _ hk); clear hk)
  go_ret
  exact ⟨rfl, (by repeat (first | exact Keep.refl _ | apply Keep.alloc | apply Keep.gro | apply Keep.drew | apply Keep.drewN))⟩
theorem itoa1_zero (w : World) : Calls Tryz.prog 115 #[.int .i64 0] w fun e w' => e = .returned (.string ⟨#[48]⟩) ∧ Keep w w' := by
  go_enter Tryz.func115, Tryz.ntmps115
  go_wp2_with (go_at_call 176; refine (fmt_zero _).mono ?_; rintro e w' ⟨rfl, hk⟩; (first | obtain ⟨p, rfl⟩ := Zone.gro_of_gro _ _ hk | obtain ⟨p, rfl⟩ := Zone.gro_of_below _ hk); clear hk)
  go_ret
  exact ⟨rfl, (by repeat (first | exact Keep.refl _ | apply Keep.alloc | apply Keep.gro | apply Keep.drew | apply Keep.drewN))⟩
theorem itoa_zero (w : World) : Calls Tryz.prog 64 #[.int .i64 0] w fun e w' => e = .returned (.string ⟨#[48]⟩) ∧ Keep w w' := by
  go_enter Tryz.func64, Tryz.ntmps64
  go_wp2_with (go_at_call 115; refine (itoa1_zero _).mono ?_; rintro e w' ⟨rfl, hk⟩; (first | obtain ⟨p, rfl⟩ := Zone.gro_of_gro _ _ hk | obtain ⟨p, rfl⟩ := Zone.gro_of_below _ hk); clear hk)
  go_ret
  exact ⟨rfl, (by repeat (first | exact Keep.refl _ | apply Keep.alloc | apply Keep.gro | apply Keep.drew | apply Keep.drewN))⟩
theorem bkind_any (c : Col) (w : World) : Calls Tryz.prog 67 #[c.v] w fun e w' => e = .returned (.int .u8 (if c.kind = 2 then 2 else 1)) ∧ Keep w w' := by
  obtain ⟨k, n⟩ := c
  simp only [Col.v]
  go_enter Tryz.func67, Tryz.ntmps67
  go_wp2
  all_goals go_ret
  all_goals exact ⟨by simp_all, (by repeat (first | exact Keep.refl _ | apply Keep.alloc | apply Keep.gro | apply Keep.drew | apply Keep.drewN))⟩
/-- the maker's cells -/
def mkC (L s0 v r p f R o I Q M : Value) : List Value := [L, s0, v, r, p, f, R, o, I, Q, M]
/-- sections whose bytes lie in blocks of bytes -/
def SecsO (w : World) (l : List Sec) : Prop := ∀ s ∈ l, OwnB w 0 (.slice s.A s.bs.length s.c) s.bs
theorem SecsO.keep {w w' : World} {l : List Sec} (h : SecsO w l) (hk : Keep w w') : SecsO w' l := fun s hs => (h s hs).keep hk
theorem SecsO.at_ {w : World} {l : List Sec} (h : SecsO w l) (hl : ∀ s ∈ l, s.bs.length ≤ 140737488355328) : SecsAt w l := fun s hs => by
  obtain ⟨A, c, hv, h1⟩ := (h s hs).sl b8_len (hl s hs)
  injection hv with hv _ hc
  subst hv; subst hc
  exact h1
/-- a block that holds no bytes -/
def NoU8 (w : World) (i : Nat) : Prop := ∀ cs r, w.heap[i]? ≠ some (.cells cs 5 r)
theorem SecsO.turn {w w' : World} {l : List Sec} {S : List Nat} (h : SecsO w l) (ht : Turn w w' S) (hn : ∀ i ∈ S, i < w.heap.size → NoU8 w i) : SecsO w' l := fun s hs => by
  have h1 := h s hs
  refine Own.turn h1 ht fun i hi e => ?_
  have hlt := (h1.lt i e).2
  rcases h1.2 with ⟨hv, _⟩ | ⟨g, cap, cur, hv, _, hg, _⟩
  · rw [hv] at e; cases e
  · rw [hv] at e
    simp only [Value.ownBlock, Option.map_some, Option.some.injEq] at e
    subst e
    exact hn _ hi hlt _ _ hg
theorem Row.noU8 {w : World} {g : Nat} {T : TypeId} {vs : List Value} (h : Row w g T vs) (ht : T ≠ 5) : NoU8 w g := fun cs r e => by
  unfold Row at h
  rw [h] at e
  simp at e
  exact ht e.2.1
theorem OwnC.noU8 {w : World} {base : Nat} {o : Value} {l : List Sec} (h : OwnC w base o l) : ∀ i, i ∈ o.ownBlock.toList → NoU8 w i := fun i hi cs r e => by
  rcases h.2 with ⟨hv, _⟩ | ⟨g, cap, cur, hv, _, hg, _⟩
  · rw [hv] at hi; simp [Value.ownBlock] at hi
  · rw [hv] at hi
    simp only [Value.ownBlock, Option.map_some, Option.toList_some, List.mem_singleton] at hi
    subst hi
    rw [hg] at e
    injection e with e
    injection e with _ e _
    exact absurd e (by decide)
set_option maxRecDepth 100000 in
set_option maxHeartbeats 2000000 in
theorem put_any {L s0 v r p f R o I Q M : Value} (b base : Nat) (S : List Sec) (nm : ByteArray) (A : Option Addr) (c : Nat) (bs : List UInt8) (w : World) (hR : Row w b 96 (mkC L s0 v r p f R o I Q M)) (hO : OwnC w base o S) (hb : b < base) (hbase : base ≤ w.heap.size) (hS : S.length ≤ 100000) :
    Calls Tryz.prog 35 #[.pointer (some ⟨b, 0, none⟩), .string nm, .slice A bs.length c] w fun e w' => e = .returned (.tuple #[]) ∧ ∃ o', Row w' b 96 (mkC L s0 v r p f R o' I Q M) ∧ OwnC w' base o' (S ++ [⟨nm, A, c, bs⟩]) ∧ Turn w w' (b :: o.ownBlock.toList) ∧ (o'.ownBlock = o.ownBlock ∨ ∃ g, o'.ownBlock = some g ∧ w.heap.size ≤ g) := by
  have HR := Lib.hid hR
  have HO := Lib.hid hO
  have x7 := hR.cell 7 _ rfl
  have hlt := hR.lt
  clear hR hO
  go_enter Tryz.func35, Tryz.ntmps35
  go_wp2_with (at_builtin; refine Zone.hold ?_)
  refine Zone.unhold ?_
  have hke : Keep w (w.alloc (.cells #[.string nm, .slice A bs.length c] 126)) := (by repeat (first | exact Keep.refl _ | apply Keep.alloc | apply Keep.gro | apply Keep.drew | apply Keep.drewN))
  have HO7 : OwnC (w.alloc (.cells #[.string nm, .slice A bs.length c] 126)) base o S := HO.out.keep hke
  refine wpList_app elt_sec sec_len sec_one rfl (.tmp 10) (.tmp 14) rfl (ys := [⟨nm, A, c, bs⟩]) HO7 rfl rfl (sl_one _ (by omega) (by omega) (fun j u hu => by
    match j, hu with
    | 0, hu => cases hu; simp [go_sem]
    | 1, hu => cases hu; simp [go_sem])) (by simp; omega) (by simp; omega) ?_
  intro v8 w8 hown8 hg8 hd8
  obtain ⟨A8, c8, hv8, _⟩ := hown8.sl sec_len (by simp; omega)
  rw [List.length_append, List.length_singleton] at hv8
  subst hv8
  have hne : o.ownBlock ≠ some b := fun e => by have := (HO.out.lt _ e).1; omega
  have hne8 : (Value.slice A8 (S.length + 1) c8).ownBlock ≠ some b := by
    rcases hd8 with e | e
    · rw [e]; exact hne
    · rw [e]; simp; omega
  have HD8 := Lib.hid (show (Value.slice A8 (S.length + 1) c8).ownBlock = o.ownBlock ∨ ∃ g, (Value.slice A8 (S.length + 1) c8).ownBlock = some g ∧ w.heap.size ≤ g by
    rcases hd8 with e | e
    · exact .inl e
    · exact .inr ⟨_, e, by simp⟩)
  have hr8 : Row w8 b 96 (mkC L s0 v r p f R o I Q M) := (hg8.block b (by simp; omega) (fun e => hne e.symm)).trans (HR.out.keep hke)
  have HR8 := Lib.hid hr8
  have HO8 := Lib.hid hown8
  have HT8 := Lib.hid (show Turn w w8 (b :: o.ownBlock.toList) from ⟨hg8.os.trans hke.os, hg8.tape.trans hke.tape, hg8.output.trans hke.output, Nat.le_trans hke.size hg8.size, fun i hi hn => (hg8.block i (by simp; omega) (fun e => hn (by rw [← e]; simp))).trans (hke.block i hi)⟩)
  have y7 := hr8.cell 7 _ rfl
  have f7 := hr8.soft 7
  have hlt8 := hr8.lt
  have HNE := Lib.hid hne8
  clear x7 hr8 hown8 hg8 hd8 HO7 hke hne hne8
  go_wp2
  exact bodyPost_end (v := .tuple #[]) (by simp [results, Tryz.results35, go_sem]) rfl ⟨rfl, _, HR8.out.set 7 _, (HO8.out.turn (Turn.set w8 ⟨b, 7, none⟩ _) (fun i hi => by
    simp only [List.mem_singleton] at hi
    subst hi
    exact HNE.out)), HT8.out.trans ((Turn.set w8 ⟨b, 7, none⟩ _).mono fun i hi => .inl (by simp only [List.mem_singleton] at hi; subst hi; simp)), HD8.out⟩
end Go.Proofs.YtmcaednlilhnoaaGreatDoor
