
/- What a block of memory holds, and what other blocks may turn: words for worlds. -/
import Derived.WalkKit
import Derived.Lib.Hide
import Derived.WalkSpells
import Derived.WalkLawsBesides
import Derived.BigQuiet
import Derived.Shelf.Abstract
import Derived.Test.YtmcaednlilhnoaaGreatDoorJa
import Derived.Test.YtmcaednlilhnoaaGreatDoorJc
import Derived.Laws.RangeAny
import Derived.LoopTactic
namespace Go.Zone
open Go.RowKit
/-- Block g holds these cells of type T, no string shares them. -/
def Row (w : World) (g : Nat) (T : TypeId) (vs : List Value) : Prop := w.heap[g]? = some (.cells vs.toArray T (0, 0))
section
variable {w w' : World} {g : Nat} {T : TypeId} {vs : List Value}
theorem Row.lt (h : Row w g T vs) : g < w.heap.size := (Array.getElem?_eq_some_iff.1 h).1
theorem Row.cell (h : Row w g T vs) (j : Nat) (u : Value) (hu : vs[j]? = some u) : w.cell? ⟨g, j, none⟩ = some u := by
  unfold Row at h
  simp [World.cell?, h, hu]
theorem Row.soft (h : Row w g T vs) (j : Nat) : w.frozen? ⟨g, j, none⟩ = false := by
  unfold Row at h
  simp [World.frozen?, h]
theorem Row.set (h : Row w g T vs) (j : Nat) (u : Value) : Row (w.setCell ⟨g, j, none⟩ u) g T (vs.set j u) := by
  unfold Row at h ⊢
  simp only [World.setCell, Array.getElem?_modify, h, if_true, Option.map_some, Option.isSome_none, Bool.false_eq_true, if_false]
  simp
theorem Row.other (h : Row w g T vs) {b : Nat} (j : Nat) (u : Value) (hb : b ≠ g) : Row (w.setCell ⟨b, j, none⟩ u) g T vs := by
  unfold Row at h ⊢
  simp only [World.setCell, Array.getElem?_modify, if_neg hb, h]
theorem row_alloc (w : World) (T : TypeId) (vs : List Value) : Row (w.alloc (.cells vs.toArray T)) w.heap.size T vs := by
  unfold Row World.alloc
  simp
theorem Row.keep (h : Row w g T vs) (hk : Keep w w') : Row w' g T vs := (hk.block g h.lt).trans h
end
theorem row_ne {w : World} {a b : Nat} {T T' : TypeId} {vs us : List Value} (h : Row w a T vs) (k : Row w b T' us) (ht : T ≠ T') : a ≠ b := fun e => by
  subst e
  unfold Row at h k
  rw [h] at k
  simp at k
  exact ht k.2
/-- Blocks laid one behind the other. -/
def allocs (w : World) : List Obj → World
  | [] => w
  | o :: r => allocs (w.alloc o) r
theorem allocs_keep : ∀ (l : List Obj) (w : World), Keep w (allocs w l)
  | [], w => Keep.refl w
  | o :: r, w => ((Keep.refl w).alloc o).trans (allocs_keep r (w.alloc o))
theorem allocs_at : ∀ (l : List Obj) (w : World) (i : Nat) (o : Obj), l[i]? = some o → (allocs w l).heap[w.heap.size + i]? = some o
  | [], _, _, _, h => by cases h
  | x :: r, w, 0, o, h => by
    simp only [List.getElem?_cons_zero, Option.some.injEq] at h
    subst h
    have h1 : (w.alloc x).heap[w.heap.size]? = some x := by unfold World.alloc; simp
    exact ((allocs_keep r (w.alloc x)).block w.heap.size (by simp)).trans h1
  | x :: r, w, i + 1, o, h => by
    have := allocs_at r (w.alloc x) i o (by simpa using h)
    rw [World.size_alloc] at this
    rw [show w.heap.size + (i + 1) = w.heap.size + 1 + i by omega]
    exact this
/-- All that was there but for some blocks is as it was. -/
structure Turn (w w' : World) (S : List Nat) : Prop where
  os : w'.os = w.os
  tape : w'.tape = w.tape
  output : w'.output = w.output
  size : w.heap.size ≤ w'.heap.size
  block : ∀ i, i < w.heap.size → i ∉ S → w'.heap[i]? = w.heap[i]?
section
variable {w w1 w2 w3 : World} {S S' : List Nat} {g : Nat} {T : TypeId} {vs : List Value}
theorem Turn.refl (w : World) (S : List Nat) : Turn w w S := ⟨rfl, rfl, rfl, Nat.le_refl _, fun _ _ _ => rfl⟩
theorem Turn.keep (h : Keep w1 w2) (S : List Nat) : Turn w1 w2 S := ⟨h.os, h.tape, h.output, h.size, fun i hi _ => h.block i hi⟩
theorem Turn.trans (h : Turn w1 w2 S) (k : Turn w2 w3 S) : Turn w1 w3 S :=
  ⟨k.os.trans h.os, k.tape.trans h.tape, k.output.trans h.output, Nat.le_trans h.size k.size, fun i hi hs => (k.block i (Nat.lt_of_lt_of_le hi h.size) hs).trans (h.block i hi hs)⟩
theorem Turn.mono (h : Turn w1 w2 S) (hs : ∀ i, i ∈ S → i ∈ S' ∨ w1.heap.size ≤ i) : Turn w1 w2 S' :=
  ⟨h.os, h.tape, h.output, h.size, fun i hi hn => h.block i hi fun hm => by rcases hs i hm with h1 | h1; exact hn h1; omega⟩
theorem Turn.trans_up (h : Turn w1 w2 S) (k : Turn w2 w3 S') (hs : ∀ i ∈ S', w1.heap.size ≤ i) : Turn w1 w3 S :=
  ⟨k.os.trans h.os, k.tape.trans h.tape, k.output.trans h.output, Nat.le_trans h.size k.size, fun i hi hn => (k.block i (Nat.lt_of_lt_of_le hi h.size) (fun hm => by have := hs i hm; omega)).trans (h.block i hi hn)⟩
theorem Turn.row (h : Turn w1 w2 S) (r : Row w1 g T vs) (hg : g ∉ S) : Row w2 g T vs := (h.block g r.lt hg).trans r
theorem Turn.set (w : World) (a : Addr) (u : Value) : Turn w (w.setCell a u) [a.block] :=
  ⟨rfl, rfl, rfl, by simp, fun i _ hi => by simp only [World.setCell, Array.getElem?_modify]; rw [if_neg (fun e => hi (by simp [e]))]⟩
theorem Turn.after (h : Keep w w1) (k : Turn w1 w2 S) (hs : ∀ i ∈ S, w.heap.size ≤ i) : Keep w w2 :=
  ⟨k.os.trans h.os, k.tape.trans h.tape, k.output.trans h.output, Nat.le_trans h.size k.size, fun i hi => (k.block i (Nat.lt_of_lt_of_le hi h.size) (fun hm => by have := hs i hm; omega)).trans (h.block i hi)⟩
end
theorem Own.turn {α : Type} {w w' : World} {base k : Nat} {e : TypeId} {enc : α → List Value} {v : Value} {xs : List α} {S : List Nat} (h : Own w base e k enc v xs) (ht : Turn w w' S) (hs : ∀ i ∈ S, v.ownBlock ≠ some i) : Own w' base e k enc v xs := by
  refine ⟨h.1, ?_⟩
  rcases h.2 with hn | ⟨g, cap, cur, rfl, hb, hg, rest⟩
  · exact .inl hn
  · exact .inr ⟨g, cap, cur, rfl, hb, (ht.block g (Array.getElem?_eq_some_iff.1 hg).1 (fun hm => hs g hm rfl)).trans hg, rest⟩
theorem own_row_ne {α : Type} {w : World} {base k b : Nat} {e T : TypeId} {enc : α → List Value} {v : Value} {xs : List α} {vs : List Value} (h : Own w base e k enc v xs) (hr : Row w b T vs) (ht : T ≠ e) : v.ownBlock ≠ some b := by
  intro hb
  rcases h.2 with ⟨rfl, _⟩ | ⟨g, cap, cur, rfl, _, hg, _⟩
  · cases hb
  · have hq : g = b := by simpa [Value.ownBlock] using hb
    subst hq
    unfold Row at hr
    rw [hr] at hg
    simp at hg
    exact ht hg.2
/-- Stops a walk at the operation that fills slot d. -/
theorem hold_at (d : Nat) {P : Program} {ops : Array Oper} {Q : Exit → Act → World → Prop} {rest : List Oper} {a : Act} {w : World} {op : Op} {ty : TypeId} {pos : String} {af : Array Edge} {gd : Option (Nat × Bool)} (h : Hid (wpList P ops Q (⟨some d, op, ty, pos, af, gd⟩ :: rest) a w)) : wpList P ops Q (⟨some d, op, ty, pos, af, gd⟩ :: rest) a w := h
/-- whole cells of a block -/
theorem Row.sl_blk {α : Type} {w : World} {g k : Nat} {T : TypeId} {enc : α → List Value} {xs : List α} (hk : ∀ x, (enc x).length = k) (h : Row w g T (xs.flatMap enc)) (hl : xs.length ≤ 140737488355328) {c : Nat} (hc : xs.length ≤ c) (hc2 : c ≤ 9223372036854775807) : Sl w k enc (some ⟨g, 0, none⟩) c xs :=
  ⟨hc, hc2, hl, fun i hi => ⟨g, 0, rfl, fun j u hu => by
    have := flat_get hk xs i j hi u hu
    simpa using h.cell _ u this⟩⟩
end Go.Zone
namespace Go.Proofs.YtmcaednlilhnoaaGreatDoor
open Go.RowKit Go.Zone Go.Shelf
attribute [local go_sem] Zone.zone Zone.stepZ Zone.fill Zone.lookFs Zone.goes Zone.goesUpon Zone.dropFs Zone.cell_gro Zone.frozen_gro Zone.size_gro Zone.lt_add Zone.drew_gro Zone.tape_gro Zone.keep_refl
attribute [local go_sem] Zone.lt_add2 Zone.lt_add3 Zone.lt_add4 Zone.lt_add5 Zone.lt_add6 Zone.lt_add7 Zone.lt_add8 Zone.lt_add9 Zone.lt_add10 Zone.lt_add11 Zone.lt_add12
/-- A column. -/
structure Col where
  name : ByteArray
  kind : Int
def Col.cells (c : Col) : List Value := [.string c.name, .int .u8 c.kind]
@[reducible] def Col.v (c : Col) : Value := .agg #[.string c.name, .int .u8 c.kind]
instance : Inhabited Col := ⟨⟨ByteArray.empty, 0⟩⟩
def isCol (n : ByteArray) (c : Col) : Bool := c.name.toList == n.toList
theorem sl_col {w : World} {c : Nat} {A : Option Addr} {xs : List Col} (h : Sl w 2 Col.cells A c xs) (i : Nat) (hi : i < xs.length) : ∃ b off, A = some ⟨b, off, none⟩ ∧ b < w.heap.size ∧ w.cell? ⟨b, off + i * 2, none⟩ = some (.string xs[i].name) ∧
    w.cell? ⟨b, off + i * 2 + 1, none⟩ = some (.int .u8 xs[i].kind) := by
  obtain ⟨b, off, hA, hc⟩ := h.at_ i hi
  have h0 := hc 0 _ rfl
  exact ⟨b, off, hA, World.block_lt_of_cell? w _ h0, h0, hc 1 _ rfl⟩

set_option maxHeartbeats 400000 in
theorem indexCol_any (A : Option Addr) (c : Nat) (xs : List Col) (g : Nat) (lb : Array Value) (p : Col → Bool) (w : World) (eg : ∀ args w, (callFunc g args).run Tryz.prog w = .ok (.enter g args) w)
    (h : Sl w 2 Col.cells A c xs) (hp : PredOk Tryz.prog g lb Col.v p w) :
    Calls Tryz.prog 214 #[.slice A xs.length c, .func (.func g) #[] lb] w fun e w' => e = .returned (.int .i64 (idxP p xs 0)) ∧ Keep w w' := by
  have hl := sl_len h
  have HP := Lib.hid hp; clear hp
  go_enter Tryz.func214, Tryz.ntmps214
  go_wp2
  go_loopw [5, 8] (fun _ i wr => ∃ k : Nat, k ≤ xs.length ∧ i = .int .i64 k ∧ Hid (Keep w wr) ∧ Hid (∀ j, (h : j < xs.length) → j < k → p xs[j] = false)) (fun _ i _ => xs.length - (intOf i).toNat)
  case atStart => exact ⟨0, Nat.zero_le _, rfl, Keep.refl _, fun j _ hj => absurd hj (Nat.not_lt_zero _)⟩
  case round =>
    obtain ⟨k, hk, rfl, HK, HR⟩ := hrel
    by_cases hlt : k < xs.length
    · have hcall := HP.out wr xs[k] HK.out
      obtain ⟨b, off, rfl, hb, h0, h1⟩ := sl_col (h.keep HK.out) k hlt
      clear h
      by_cases hq : p xs[k] = true
      · rw [hq] at hcall
        have HC := Lib.hid hcall
        have HQ := Lib.hid hq
        clear hcall hq
        go_wp2_with (go_at_fn g; refine HC.out.mono ?_; rintro e w' ⟨rfl, hk'⟩)
        go_ret
        exact ⟨ret_int (by rw [idxP_at p xs 0 k HR.out, List.drop_eq_getElem_cons hlt]; simp [idxP, HQ.out]), HK.out.trans hk'⟩
      · have hq' : p xs[k] = false := by simpa using hq
        rw [hq'] at hcall
        have HC := Lib.hid hcall
        have HQ := Lib.hid hq'
        clear hcall hq hq'
        go_wp2_with (go_at_fn g; refine HC.out.mono ?_; rintro e w' ⟨rfl, hk'⟩)
        go_roundw
        case rel => exact ⟨k + 1, by omega, by go_num, HK.out.trans hk', fun j hj hjk => by
          by_cases e : j = k
          · subst e; exact HQ.out
          · exact HR.out j hj (by omega)⟩
        case measure => simp [intOf]; omega
    · go_wp2
      go_ret
      exact ⟨ret_int (by rw [idxP_at p xs 0 xs.length fun j hj _ => HR.out j hj (by omega)]; simp [idxP]), HK.out⟩

theorem idxP_lt {α : Type} (p : α → Bool) : ∀ (xs : List α) (i : Nat), 0 ≤ idxP p xs i → ∃ k, ∃ h : k < xs.length, idxP p xs i = ((i + k : Nat) : Int) ∧ xs.find? p = some xs[k]
  | [], i, h => by simp [idxP] at h
  | x :: r, i, h => by
    unfold idxP at h ⊢
    by_cases hp : p x = true
    · exact ⟨0, by simp, by simp [hp], by simp [hp]⟩
    · simp only [hp, Bool.false_eq_true, if_false] at h ⊢
      obtain ⟨k, hk, h1, h2⟩ := idxP_lt p r (i + 1) h
      exact ⟨k + 1, by simp; omega, by rw [h1]; congr 1; omega, by simp [hp, h2]⟩
theorem idxP_neg {α : Type} (p : α → Bool) : ∀ (xs : List α) (i : Nat), ¬ 0 ≤ idxP p xs i → xs.find? p = none
  | [], i, h => rfl
  | x :: r, i, h => by
    unfold idxP at h
    by_cases hp : p x = true
    · simp only [hp, if_true] at h; omega
    · simp only [hp, Bool.false_eq_true, if_false] at h
      simp [hp, idxP_neg p r (i + 1) h]

/-- what find gives -/
def findC (cs : List Col) (n : ByteArray) : Col × Bool := match cs.find? (isCol n) with | some c => (c, true) | none => (⟨ByteArray.empty, 0⟩, false)
/-- of a column's values -/
def kindC (k : Int) : Int := if k = 2 then 2 else 1
end Go.Proofs.YtmcaednlilhnoaaGreatDoor
namespace Go.Proofs.YtmcaednlilhnoaaGreatDoor
def okB (b : Nat) : Bool := !((decide (b < 97) || decide (122 < b)) && (decide (b < 48) || decide (57 < b)) && !(decide (b = 95)))
structure NameP (s : ByteArray) : Prop where
  ok : ∀ i, (h : i < s.size) → okB (s[i]'h).toNat = true
  lo : 1 ≤ s.size
  hi : s.size ≤ 64
structure MayP (l : List Col) : Prop where
  name : ∀ i, (h : i < l.length) → NameP l[i].name
  kind : ∀ i, (h : i < l.length) → 1 ≤ l[i].kind ∧ l[i].kind ≤ 3
  one : ∀ i k, (h : i < l.length) → (hk : k < i) → (l[k]'(by omega)).name.toList ≠ l[i].name.toList
  lo : 1 ≤ l.length
  hi : l.length ≤ 256
def dimP (l : List Col) (i : Int) : Bool := match i with
  | .ofNat k => match l[k]? with | some c => c.kind == 1 || c.kind == 2 | none => false
  | .negSucc _ => false
def hasB (f : List Bool) (i : Nat) : Bool := f.getD i false
structure FlagP (l : List Col) (f : List Bool) : Prop where
  len : f.length = 0 ∨ f.length = l.length
  ok : ∀ i, f.getD i false = true → dimP l (i : Int) = true
structure FitsP (l : List Col) (s : Int) (v r : List Bool) (sp : List Int) (leaf : Int) : Prop where
  may : MayP l
  sort : s = -1 ∨ dimP l s = true
  inv : FlagP l v
  rng : FlagP l r
  split : ∀ i, (h : i < sp.length) → dimP l sp[i] = true
  one : ∀ i k, (h : i < sp.length) → (hk : k < i) → sp[k]'(by omega) ≠ sp[i]
  few : sp.length ≤ 8
  lo : 1 ≤ leaf
  hi : leaf ≤ 1000000
theorem idxP_first {α : Type} (p : α → Bool) : ∀ (xs : List α) (i k : Nat) (h : k < xs.length), p xs[k] = true → (∀ j, (hj : j < k) → p (xs[j]'(by omega)) = false) → idxP p xs i = ((i + k : Nat) : Int)
  | x :: r, i, 0, _, h, _ => by simp [idxP] at h ⊢; simp [h]
  | x :: r, i, k + 1, hk, h, hf => by
    have h0 := hf 0 (by omega)
    simp only [List.getElem_cons_zero] at h0
    have := idxP_first p r (i + 1) k (by simpa using hk) (by simpa using h) fun j hj => by simpa using hf (j + 1) (by omega)
    simp only [idxP, h0, Bool.false_eq_true, if_false, this]
    congr 1; omega
theorem idxP_le {α : Type} (p : α → Bool) : ∀ (xs : List α) (i k : Nat) (h : k < xs.length), p xs[k] = true → idxP p xs i ≤ ((i + k : Nat) : Int)
  | x :: r, i, 0, _, h => by simp [idxP] at h ⊢; simp [h]
  | x :: r, i, k + 1, hk, h => by
    have := idxP_le p r (i + 1) k (by simpa using hk) (by simpa using h)
    simp only [idxP]
    split <;> omega
/-- the place that Find gives is i just if no column ahead has the name -/
theorem find_first (l : List Col) (i : Nat) (h : i < l.length) : idxP (isCol l[i].name) l 0 = (i : Int) ↔ ∀ k, (hk : k < i) → (l[k]'(by omega)).name.toList ≠ l[i].name.toList := by
  constructor
  · intro he k hk heq
    have := idxP_le (isCol l[i].name) l 0 k (by omega) (by simp [isCol, heq])
    omega
  · intro hall
    have := idxP_first (isCol l[i].name) l 0 i h (by simp [isCol]) fun j hj => by simpa [isCol] using hall j hj
    simpa using this

/-- what a column adds to the bound -/
def addB (l : List Col) (v r : List Bool) (s rows : Int) (i : Nat) (d : Int) : Int :=
  if dimP l (i : Int) then 88 + 3 * rows + (if v.getD i false then 24 + 25 * d + 29 * rows else 0) + (if r.getD i false then 24 + d * (16 + 8201 * (rows / 65536 + 1)) else 0) + (if s = (i : Int) then 24 + 4 * d else 0) else 49 + 8 * rows
def sumBd (l : List Col) (v r : List Bool) (s rows : Int) (many : List Int) : Nat → Int
  | 0 => 0
  | k + 1 => sumBd l v r s rows many k + addB l v r s rows k (many.getD k 0)
def metB (l : List Col) : Nat → Nat
  | 0 => 0
  | k + 1 => metB l k + if dimP l (k : Int) then 0 else 1
/-- the bound, but for the test whether columns and configuration fit -/
def bodyB (l : List Col) (v r : List Bool) (s : Int) (sp : List Int) (rows : Int) (many : List Int) (texts : Int) : Int :=
  6 + 96 + 69 * l.length + 2 * sp.length + 29 + texts + sumBd l v r s rows many many.length +
    (if sp.length = 0 then 0 else 40 + 13 + (sp.length + 1) * rows * (4 * sp.length + 8 + 24 * metB l many.length + 21 * (sp.length + 1)))
end Go.Proofs.YtmcaednlilhnoaaGreatDoor
namespace Go.Proofs.YtmcaednlilhnoaaGreatDoor
open Go.RowKit Go.Zone Go.Shelf
attribute [local go_sem] Zone.zone Zone.stepZ Zone.fill Zone.lookFs Zone.goes Zone.goesUpon Zone.dropFs Zone.cell_gro Zone.frozen_gro Zone.size_gro Zone.lt_add Zone.drew_gro Zone.tape_gro Zone.keep_refl
attribute [local go_sem] Zone.lt_add2 Zone.lt_add3 Zone.lt_add4 Zone.lt_add5 Zone.lt_add6 Zone.lt_add7 Zone.lt_add8 Zone.lt_add9 Zone.lt_add10 Zone.lt_add11 Zone.lt_add12
/-- whether something is so, as the program answers it -/
noncomputable def pB (p : Prop) : Bool := @decide p (Classical.propDecidable p)
theorem pB_yes {p : Prop} (h : p) : pB p = true := by unfold pB; exact @decide_eq_true _ (Classical.propDecidable p) h
theorem pB_no {p : Prop} (h : ¬ p) : pB p = false := by unfold pB; exact @decide_eq_false _ (Classical.propDecidable p) h
theorem pB_iff {p : Prop} : pB p = true ↔ p := by unfold pB; exact @decide_eq_true_iff _ (Classical.propDecidable p)
theorem okB_no {n : Nat} (h : 128 ≤ n) : okB n = false := by unfold okB; simp; omega
/-- what a step of a range gives: an ASCII byte itself, or a number that is no name's -/
theorem okN (s : ByteArray) (pos : Nat) (h : pos < s.size) : okB (Utf8.decode s pos).1 = okB (s[pos]'h).toNat ∧ (okB (Utf8.decode s pos).1 = true → (Utf8.decode s pos).2 = 1) ∧ 1 ≤ (Utf8.decode s pos).2 := by
  by_cases ha : (s[pos]'h).toNat < 128
  · rw [decode_ascii s pos h ha]
    exact ⟨rfl, fun _ => rfl, Nat.le_refl _⟩
  · have hd := decode_high s pos h (by omega)
    have h1 := okB_no hd.1
    refine ⟨by rw [h1, okB_no (by omega)], fun h => ?_, hd.2⟩
    rw [h1] at h
    cases h
theorem badN {s : ByteArray} {pos r k : Nat} (_ : ∀ i, (h : i < s.size) → i < pos → okB (s[i]'h).toNat = true) (h : pos < s.size) (hr : okB r = okB (s[pos]'h).toNat ∧ (okB r = true → k = 1) ∧ 1 ≤ k) (hb : okB r = false) : ¬ NameP s := fun hn => by
  have := hn.ok pos h
  rw [← hr.1, hb] at this
  cases this
theorem okB_spec (r : Nat) : okB r = true ↔ (97 ≤ r ∧ r ≤ 122) ∨ (48 ≤ r ∧ r ≤ 57) ∨ r = 95 := by
  unfold okB
  simp
  omega
theorem goodN {s : ByteArray} {pos r k : Nat} (H : ∀ i, (h : i < s.size) → i < pos → okB (s[i]'h).toNat = true) (h : pos < s.size) (hr : okB r = okB (s[pos]'h).toNat ∧ (okB r = true → k = 1) ∧ 1 ≤ k) (hb : okB r = true) : ∀ i, (h : i < s.size) → i < pos + k → okB (s[i]'h).toNat = true := fun i hi hk => by
  rw [hr.2.1 hb] at hk
  by_cases e : i = pos
  · subst e; rw [← hr.1, hb]
  · exact H i hi (by omega)
set_option maxRecDepth 100000 in
set_option maxHeartbeats 1000000 in
theorem isName_any (s : ByteArray) (w : World) (hz : s.size ≤ 140737488355328) : Calls Tryz.prog 168 #[.string s] w fun e w' => e = .returned (.bool (pB (NameP s))) ∧ Keep w w' := by
  go_enter Tryz.func168, Tryz.ntmps168
  go_wp2
  go_loopw [4] (fun _ wr => ∃ pos : Nat, wr = w.iter s pos ∧ Hid (∀ i, (h : i < s.size) → i < pos → okB (s[i]'h).toNat = true)) (fun _ wr => s.size - wr.iterPos w.heap.size)
  case atStart => exact ⟨0, rfl, fun i h hi => absurd hi (Nat.not_lt_zero _)⟩
  case round =>
    obtain ⟨pos, rfl, HP⟩ := hrel
    by_cases hp : pos < s.size
    · have hnx := fun ty => run_next_any (P := Tryz.prog) w s pos ty hp
      have HR := Lib.hid (okN s pos hp)
      generalize Utf8.decode s pos = d at hnx HR ⊢
      obtain ⟨r, k⟩ := d
      simp only at hnx HR
      go_wp2
      all_goals first
      | (have hb : okB r = false := by
          rw [Bool.eq_false_iff, ne_eq, okB_spec]
          try simp only [bne_iff_ne, ne_eq] at *
          omega
         go_ret
         exact ⟨ret_bool (pB_no (badN HP.out hp HR.out hb)).symm, (by repeat (first | exact Keep.refl _ | apply Keep.alloc | apply Keep.gro | apply Keep.drew | apply Keep.drewN))⟩)
      | (have hb : okB r = true := by
          rw [okB_spec]
          try simp only [bne_eq_false_iff_eq] at *
          omega
         go_roundw
         case rel => exact ⟨pos + k, rfl, goodN HP.out hp HR.out hb⟩
         case measure =>
           have := HR.out.2.2
           simp
           omega)
    · have hnx := fun ty => run_next_end (P := Tryz.prog) w s pos ty hp
      go_wp2
      · go_ret
        exact ⟨by
          by_cases h64 : (s.size : Int) ≤ 64
          · rw [pB_yes ⟨fun i h => HP.out i h (by omega), by omega, by omega⟩]; simp [h64]
          · rw [pB_no fun hn => h64 (by have := hn.hi; omega)]; simp [h64], (by repeat (first | exact Keep.refl _ | apply Keep.alloc | apply Keep.gro | apply Keep.drew | apply Keep.drewN))⟩
      · go_ret
        exact ⟨ret_bool (pB_no fun hn => by have := hn.lo; omega).symm, (by repeat (first | exact Keep.refl _ | apply Keep.alloc | apply Keep.gro | apply Keep.drew | apply Keep.drewN))⟩
end Go.Proofs.YtmcaednlilhnoaaGreatDoor
namespace Go.Proofs.YtmcaednlilhnoaaGreatDoor
open Go.RowKit Go.Zone Go.Shelf
attribute [local go_sem] Zone.zone Zone.stepZ Zone.fill Zone.lookFs Zone.goes Zone.goesUpon Zone.dropFs Zone.cell_gro Zone.frozen_gro Zone.size_gro Zone.lt_add Zone.drew_gro Zone.tape_gro Zone.keep_refl
attribute [local go_sem] Zone.lt_add2 Zone.lt_add3 Zone.lt_add4 Zone.lt_add5 Zone.lt_add6 Zone.lt_add7 Zone.lt_add8 Zone.lt_add9 Zone.lt_add10 Zone.lt_add11 Zone.lt_add12
def i64V (x : Int) : List Value := [.int .i64 x]
def flV (x : Bool) : List Value := [.bool x]
theorem sl_i64 {w : World} {c : Nat} {A : Option Addr} {xs : List Int} (h : Sl w 1 i64V A c xs) (i : Nat) (hi : i < xs.length) : ∃ b off, A = some ⟨b, off, none⟩ ∧ b < w.heap.size ∧ w.cell? ⟨b, off + i, none⟩ = some (.int .i64 xs[i]) := by
  obtain ⟨b, off, hA, hc⟩ := h.at_ i hi
  have h0 := hc 0 _ rfl
  exact ⟨b, off, hA, World.block_lt_of_cell? w _ h0, by simpa using h0⟩
theorem sl_fl {w : World} {c : Nat} {A : Option Addr} {xs : List Bool} (h : Sl w 1 flV A c xs) (i : Nat) (hi : i < xs.length) : ∃ b off, A = some ⟨b, off, none⟩ ∧ b < w.heap.size ∧ w.cell? ⟨b, off + i, none⟩ = some (.bool xs[i]) := by
  obtain ⟨b, off, hA, hc⟩ := h.at_ i hi
  have h0 := hc 0 _ rfl
  exact ⟨b, off, hA, World.block_lt_of_cell? w _ h0, by simpa using h0⟩
theorem sfind1_any (c : Col) (n : ByteArray) (b : Nat) (w : World) (h : w.cell? ⟨b, 0, none⟩ = some (.string n)) (hb : b < w.heap.size) : Calls Tryz.prog 215 #[c.v, .pointer (some ⟨b, 0, none⟩)] w fun e w' => e = .returned (.bool (isCol n c)) ∧ Keep w w' := by
  obtain ⟨k', n'⟩ := c
  simp only [Col.v]
  go_enter Tryz.func215, Tryz.ntmps215
  go_wp2
  go_ret
  exact ⟨rfl, (by repeat (first | exact Keep.refl _ | apply Keep.alloc | apply Keep.gro | apply Keep.drew | apply Keep.drewN))⟩
theorem sfind_any (A : Option Addr) (c : Nat) (cs : List Col) (n : ByteArray) (w : World) (h : Sl w 2 Col.cells A c cs) :
    Calls Tryz.prog 169 #[.slice A cs.length c, .string n] w fun e w' => e = .returned (.int .i64 (idxP (isCol n) cs 0)) ∧ Keep w w' := by
  have HS := Lib.hid h
  clear h
  go_enter Tryz.func169, Tryz.ntmps169
  go_wp2_with (go_at_call 214; refine Zone.hold ?_)
  refine Zone.unhold ?_
  refine (indexCol_any A c cs 215 #[.pointer (some ⟨w.heap.size, 0, none⟩)] (isCol n) _ (enters_of Tryz.func215 (by kernel_rfl) rfl) (HS.out.keep (by repeat (first | exact Keep.refl _ | apply Keep.alloc | apply Keep.gro | apply Keep.drew | apply Keep.drewN))) (fun W x hW => sfind1_any x n _ W ((hW.cell (p := ⟨w.heap.size, 0, none⟩) (by simp [go_sem])).trans (by simp [go_sem])) (Nat.lt_of_lt_of_le (by simp [go_sem]) hW.size))).mono ?_
  rintro e w' ⟨rfl, hk⟩
  obtain ⟨p, rfl⟩ := gro_of_below _ hk
  clear HS hk
  go_wp2
  go_ret
  exact ⟨rfl, (by repeat (first | exact Keep.refl _ | apply Keep.alloc | apply Keep.gro | apply Keep.drew | apply Keep.drewN))⟩
theorem dim_any (A : Option Addr) (c : Nat) (cs : List Col) (i : Int) (w : World) (h : Sl w 2 Col.cells A c cs) :
    Calls Tryz.prog 37 #[.slice A cs.length c, .int .i64 i] w fun e w' => e = .returned (.bool (dimP cs i)) ∧ Keep w w' := by
  have hl := sl_len h
  cases i with
  | ofNat k =>
    by_cases hk : k < cs.length
    · obtain ⟨b, off, rfl, hb, h0, h1⟩ := sl_col h k hk
      have hd : dimP cs (Int.ofNat k) = (cs[k].kind == 1 || cs[k].kind == 2) := by simp [dimP, hk]
      have HD := Lib.hid hd
      clear h hd
      go_enter Tryz.func37, Tryz.ntmps37
      go_wp2
      all_goals go_ret
      all_goals exact ⟨by rw [HD.out]; simp_all, (by repeat (first | exact Keep.refl _ | apply Keep.alloc | apply Keep.gro | apply Keep.drew | apply Keep.drewN))⟩
    · have HD := Lib.hid (show dimP cs (Int.ofNat k) = false by simp [dimP, hk])
      clear h
      go_enter Tryz.func37, Tryz.ntmps37
      go_wp2
      go_ret
      exact ⟨by rw [HD.out]; rfl, (by repeat (first | exact Keep.refl _ | apply Keep.alloc | apply Keep.gro | apply Keep.drew | apply Keep.drewN))⟩
  | negSucc k =>
    have HD := Lib.hid (show dimP cs (Int.negSucc k) = false by simp [dimP])
    clear h
    go_enter Tryz.func37, Tryz.ntmps37
    go_wp2
    go_ret
    exact ⟨by rw [HD.out]; rfl, (by repeat (first | exact Keep.refl _ | apply Keep.alloc | apply Keep.gro | apply Keep.drew | apply Keep.drewN))⟩
/-- a flag at a place -/
def hasP (f : List Bool) (i : Int) : Bool := match i with
  | .ofNat k => f.getD k false
  | .negSucc _ => false
theorem has_any (A : Option Addr) (c : Nat) (fs : List Bool) (i : Int) (w : World) (h : Sl w 1 flV A c fs) :
    Calls Tryz.prog 60 #[.slice A fs.length c, .int .i64 i] w fun e w' => e = .returned (.bool (hasP fs i)) ∧ Keep w w' := by
  have hl := sl_len h
  cases i with
  | ofNat k =>
    by_cases hk : k < fs.length
    · obtain ⟨b, off, rfl, hb, h0⟩ := sl_fl h k hk
      have HD := Lib.hid (show hasP fs (Int.ofNat k) = fs[k] by simp [hasP, hk])
      clear h
      go_enter Tryz.func60, Tryz.ntmps60
      go_wp2
      go_ret
      exact ⟨by rw [HD.out]; rfl, (by repeat (first | exact Keep.refl _ | apply Keep.alloc | apply Keep.gro | apply Keep.drew | apply Keep.drewN))⟩
    · have HD := Lib.hid (show hasP fs (Int.ofNat k) = false by simp [hasP, Nat.le_of_not_lt hk])
      clear h
      go_enter Tryz.func60, Tryz.ntmps60
      go_wp2
      go_ret
      exact ⟨by rw [HD.out]; rfl, (by repeat (first | exact Keep.refl _ | apply Keep.alloc | apply Keep.gro | apply Keep.drew | apply Keep.drewN))⟩
  | negSucc k =>
    have HD := Lib.hid (show hasP fs (Int.negSucc k) = false by simp [hasP])
    clear h
    go_enter Tryz.func60, Tryz.ntmps60
    go_wp2
    go_ret
    exact ⟨by rw [HD.out]; rfl, (by repeat (first | exact Keep.refl _ | apply Keep.alloc | apply Keep.gro | apply Keep.drew | apply Keep.drewN))⟩
theorem may_not_find {l : List Col} {i : Nat} (h : i < l.length) (hb : idxP (isCol l[i].name) l 0 ≠ (i : Int)) : ¬ MayP l := fun m => hb ((find_first l i h).2 fun k hk => m.one i k h hk)
set_option maxRecDepth 100000 in
set_option maxHeartbeats 1000000 in
theorem smay_any (A : Option Addr) (c : Nat) (cs : List Col) (w : World) (h : Sl w 2 Col.cells A c cs) (hz : ∀ x ∈ cs, x.name.size ≤ 140737488355328) :
    Calls Tryz.prog 104 #[.slice A cs.length c] w fun e w' => e = .returned (.bool (pB (MayP cs))) ∧ Keep w w' := by
  have hl := sl_len h
  have H := Lib.hid h
  clear h
  go_enter Tryz.func104, Tryz.ntmps104
  go_wp2
  go_loopw [7] (fun i wr => ∃ k : Nat, k ≤ cs.length ∧ i = .int .i64 k ∧ Hid (Keep w wr) ∧ Hid (∀ j, (h : j < cs.length) → j < k → NameP cs[j].name ∧ (1 ≤ cs[j].kind ∧ cs[j].kind ≤ 3) ∧ idxP (isCol cs[j].name) cs 0 = (j : Int))) (fun i _ => cs.length - (intOf i).toNat)
  case atStart => exact ⟨0, Nat.zero_le _, rfl, Keep.refl _, fun j _ hj => absurd hj (Nat.not_lt_zero _)⟩
  case round =>
    obtain ⟨k, hk, rfl, HK, HR⟩ := hrel
    by_cases hlt : k < cs.length
    · obtain ⟨b, off, hA, hb, h0, h1⟩ := sl_col (H.out.keep HK.out) k hlt
      have HN := Lib.hid (isName_any cs[k].name)
      have HZ := Lib.hid (hz cs[k] (List.getElem_mem hlt))
      have HF := Lib.hid (sfind_any A c cs cs[k].name)
      subst hA
      cases hq : pB (NameP cs[k].name)
      · have HQ := Lib.hid hq
        go_wp2_with (go_at_call 168; refine (HN.out _ HZ.out).mono ?_; rintro e w' ⟨rfl, hk⟩; (first | obtain ⟨p, rfl⟩ := Zone.gro_of_gro _ _ hk | obtain ⟨p, rfl⟩ := Zone.gro_of_below _ hk); clear hk)
        go_ret
        exact ⟨ret_bool (pB_no fun m => by have := HQ.out; rw [pB_yes (m.name k hlt)] at this; cases this).symm, HK.out.trans (by repeat (first | exact Keep.refl _ | apply Keep.alloc | apply Keep.gro | apply Keep.drew | apply Keep.drewN))⟩
      · have HQ := Lib.hid hq
        go_wp2_with (first | (go_at_call 168; refine (HN.out _ HZ.out).mono ?_; rintro e w' ⟨rfl, hk⟩; (first | obtain ⟨p, rfl⟩ := Zone.gro_of_gro _ _ hk | obtain ⟨p, rfl⟩ := Zone.gro_of_below _ hk); clear hk) | (go_at_call 169; refine (HF.out _ (H.out.keep (HK.out.trans (by repeat (first | exact Keep.refl _ | apply Keep.alloc | apply Keep.gro | apply Keep.drew | apply Keep.drewN))))).mono ?_; rintro e w' ⟨rfl, hk⟩; (first | obtain ⟨p, rfl⟩ := Zone.gro_of_gro _ _ hk | obtain ⟨p, rfl⟩ := Zone.gro_of_below _ hk); clear hk))
        all_goals first
        | (go_ret
           exact ⟨ret_bool (pB_no fun m => by
             have m1 := m.kind k hlt
             have m2 := (find_first cs k hlt).2 fun j hj => m.one k j hlt hj
             first | omega | (simp only [m2, bne_self_eq_false, Bool.false_eq_true, or_false] at *; omega)).symm, HK.out.trans (by repeat (first | exact Keep.refl _ | apply Keep.alloc | apply Keep.gro | apply Keep.drew | apply Keep.drewN))⟩)
        | (go_roundw
           case rel => exact ⟨k + 1, by omega, by go_num, HK.out.trans (by repeat (first | exact Keep.refl _ | apply Keep.alloc | apply Keep.gro | apply Keep.drew | apply Keep.drewN)), fun j hj hjk => by
             by_cases e : j = k
             · subst e
               refine ⟨pB_iff.1 HQ.out, by omega, ?_⟩
               simp only [bne_eq_false_iff_eq] at *
               omega
             · exact HR.out j hj (by omega)⟩
           case measure => simp [intOf]; omega)
    · go_wp2
      all_goals go_ret
      all_goals refine ⟨?_, HK.out⟩
      · by_cases h2 : (cs.length : Int) ≤ 256
        · rw [pB_yes ⟨fun i hi => (HR.out i hi (by omega)).1, fun i hi => (HR.out i hi (by omega)).2.1, fun i j hi hj => (find_first cs i hi).1 (HR.out i hi (by omega)).2.2 j hj, by omega, by omega⟩]
          simp [h2]
        · rw [pB_no fun m => h2 (by have := m.hi; omega)]
          simp [h2]
      · exact ret_bool (pB_no fun m => by have := m.lo; omega).symm
end Go.Proofs.YtmcaednlilhnoaaGreatDoor
