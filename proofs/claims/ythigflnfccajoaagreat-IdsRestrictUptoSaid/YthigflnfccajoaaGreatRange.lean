/- A range over a function: what an iterator gives; the statement; a function's end behind such a statement. -/
import Derived.Test.YthigflnfccajoaaGreatZoneR
import Derived.Lib.Hide
namespace Go.Zone
open Go.RowKit
variable {P : Program}
theorem wide_fn (f : FuncId) : Fence.wide.fn f = True := rfl
theorem wide_depth : Fence.wide.depth = none := rfl
theorem wide_round : Fence.wide.round = none := rfl
/-- What stays where all that was there stays, and where a block from B on that is no row of cells turns. -/
structure Stable (B : Nat) (I : World → Prop) : Prop where
  keep : ∀ W W', I W → Keep W W' → I W'
  put : ∀ (W : World) (l : Nat) (o o' : Obj), I W → B ≤ l → W.heap[l]? = some o → o.isCells = false → I (W.putObj l o')
theorem Stable.and {B : Nat} {I J : World → Prop} (h : Stable B I) (k : Stable B J) : Stable B fun W => I W ∧ J W :=
  ⟨fun W W' hi hk => ⟨h.keep W W' hi.1 hk, k.keep W W' hi.2 hk⟩, fun W l o o' hi hb hl ho => ⟨h.put W l o o' hi.1 hb hl ho, k.put W l o o' hi.2 hb hl ho⟩⟩
theorem Stable.pure {B : Nat} (p : Prop) : Stable B fun _ => p := ⟨fun _ _ h _ => h, fun _ _ _ _ h _ _ _ => h⟩
theorem Stable.ex {B : Nat} {α : Type} {I : α → World → Prop} (h : ∀ x, Stable B (I x)) : Stable B fun W => ∃ x, I x W :=
  ⟨fun W W' ⟨x, hi⟩ hk => ⟨x, (h x).keep W W' hi hk⟩, fun W l o o' ⟨x, hi⟩ hb hl ho => ⟨x, (h x).put W l o o' hi hb hl ho⟩⟩
theorem Stable.hid {B : Nat} {I : World → Prop} (h : Stable B I) : Stable B fun W => Hid (I W) :=
  ⟨fun W W' hi hk => Lib.hid (h.keep W W' hi.out hk), fun W l o o' hi hb hl ho => Lib.hid (h.put W l o o' hi.out hb hl ho)⟩
theorem put_row {W : World} {l : Nat} {o o' : Obj} (hl : W.heap[l]? = some o) (ho : o.isCells = false) : ∀ r, some l = some r → ∃ o : Obj, W.heap[r]? = some o ∧ o.isCells = false := fun r e => by cases e; exact ⟨o, hl, ho⟩
theorem Stable.cell {B : Nat} (a : Addr) (v : Value) : Stable B fun W => W.cell? a = some v :=
  ⟨fun W W' h hk => (hk.cell (World.block_lt_of_cell? W _ h)).trans h, fun W l o o' h _ hl ho => cell_kept h (grownBy_putObj' W l o') (put_row (o' := o') hl ho)⟩
/-- A cell that may be written. -/
def Open (W : World) (a : Addr) (v : Value) : Prop := W.cell? a = some v ∧ W.frozen? a = false
theorem Stable.open_ {B : Nat} (a : Addr) (v : Value) : Stable B fun W => Open W a v :=
  ⟨fun W W' h hk => ⟨(hk.cell (World.block_lt_of_cell? W _ h.1)).trans h.1, (hk.frozen (World.block_lt_of_cell? W _ h.1)).trans h.2⟩,
   fun W l o o' h _ hl ho => ⟨cell_kept h.1 (grownBy_putObj' W l o') (put_row (o' := o') hl ho), (frozen_kept h.1 (grownBy_putObj' W l o') (put_row (o' := o') hl ho)).trans h.2⟩⟩
theorem keep_put {w W : World} {l : Nat} (o' : Obj) (h : Keep w W) (hl : w.heap.size ≤ l) : Keep w (W.putObj l o') := h.grown (grownBy_putObj' W l o') fun k e => by cases e; exact hl
theorem Stable.below {B : Nat} (w : World) (hB : w.heap.size ≤ B) : Stable B fun W => Keep w W :=
  ⟨fun _ _ h hk => h.trans hk, fun W l o o' h hb _ _ => keep_put o' h (Nat.le_trans hB hb)⟩
theorem Stable.size {B : Nat} (n : Nat) : Stable B fun W => n ≤ W.heap.size := ⟨fun _ _ h hk => Nat.le_trans h hk.size, fun W l o o' h _ _ _ => by simpa using h⟩
theorem Stable.lt {B : Nat} (n : Nat) : Stable B fun W => n < W.heap.size := ⟨fun _ _ h hk => Nat.lt_of_lt_of_le h hk.size, fun W l o o' h _ _ _ => by simpa using h⟩

/-- An iterator yields xs, where D tells that what it reads is there. -/
def Iter (P : Program) (gf : FuncId) (lb : Array Value) {α : Type} (encs : α → Array Value) (xs : List α) (D : World → Prop) : Prop :=
  ∀ (l : Nat) (J Jx : List α → World → Prop) (W : World), (∀ s A B, J s A → Keep A B → J s B) → (∀ s A B, Jx s A → Keep A B → Jx s B) → (∀ s A, J s A → D A) →
    (∀ pre x suf W1, xs = pre ++ x :: suf → J pre W1 → YieldAt Fence.wide 0 P l (encs x) W1 fun e W' => (e = .returned (.bool true) ∧ J (pre ++ [x]) W') ∨ (e = .returned (.bool false) ∧ Jx (pre ++ [x]) W')) →
    J [] W → Calls P gf (#[.func (.yield l) #[] #[]] ++ lb) W fun e W' => (∃ v, e = .returned v) ∧ (J xs W' ∨ ∃ pre, Jx pre W' ∧ ∃ suf, xs = pre ++ suf)

/-- How the body of a round is left. -/
def RoundQ {α : Type} (B : Nat) (I : List α → World → Prop) (Ix : Code → List α → World → Prop) (xs : List α) (W : World) : Exit → Act → World → Prop
  | .normal, _, W' => KeepsFrom B W W' ∧ I xs W'
  | .ret, _, W' => KeepsFrom B W W' ∧ Ix .ret xs W'
  | .exit id, _, W' => KeepsFrom B W W' ∧ Ix (.exit id) xs W'
  | .goto t, _, W' => KeepsFrom B W W' ∧ Ix (.goto t) xs W'
  | .panic _, _, _ => False
  | .outgrown, _, _ => False

/-- The mark of a range over a function among a frame's deferred calls. -/
abbrev mark (D : Nat) : Deferred := { target := .collected D, args := #[] }
theorem KeepsFrom.keep {B : Nat} {W W' : World} (h : Keep W W') : KeepsFrom B W W' := ⟨h.size, fun k o _ hk _ => (h.block k (Array.getElem?_eq_some_iff.1 hk).1).trans hk⟩
theorem KeepsFrom.set {B : Nat} (W : World) (a : Addr) (v : Value) : KeepsFrom B W (W.setCell a v) := (KeepsOthers.setCell W a v).from B

theorem wp_range {α : Type} {g : Operand} {ps : Array Tmp} {assign body : Code} {Q : Exit → Act → World → Prop} {a : Act} {w : World} {gf : Nat} {lb : Array Value} (hg : a.eval g = .func (.func gf) #[] lb)
    (eg : ∀ args w, (callFunc gf args).run P w = .ok (.enter gf args) w) {encs : α → Array Value} {xs : List α} {D : World → Prop} (hit : Iter P gf lb encs xs D) (hps : ∀ x, (encs x).size = ps.size)
    (I : List α → World → Prop) (Ix : Code → List α → World → Prop) (Ax : α → Act → World → Prop) (hI : ∀ s, Stable w.heap.size (I s)) (hIx : ∀ c s, Stable w.heap.size (Ix c s)) (hAx : ∀ x b, Stable w.heap.size (Ax x b))
    (hID : ∀ s A, I s A → D A) (h0 : I [] w)
    (hassign : ∀ (r : Nat) (pre : List α) (x : α) (suf : List α) (W : World) (K : Act → World → Prop), xs = pre ++ x :: suf → I pre W → (∀ a₁ W₁, Ax x a₁ W₁ → Keep W W₁ → K a₁ W₁) →
      assign.wpIn (Fence.wide.inRound r) 0 P (Exit.then K (fun _ _ _ => False)) { tmps := (ps.zip (encs x)).foldl (fun t (p, v) => t.setIfInBounds p v) a.tmps, defers := [] } W)
    (hbody : ∀ (r : Nat) (pre : List α) (x : α) (suf : List α) (a₁ : Act) (W : World), xs = pre ++ x :: suf → I pre W → Ax x a₁ W → body.wpIn (Fence.wide.inRound r) 0 P (RoundQ w.heap.size I Ix (pre ++ [x]) W) a₁ W)
    (hdone : ∀ (E : Nat) (W : World), w.heap.size ≤ E → I xs W → W.heap[E]? = some (.deferred (some [])) → Q .normal { a with defers := mark E :: a.defers } W)
    (hstop : ∀ (E : Nat) (c : Code) (pre : List α) (W : World), w.heap.size ≤ E → Ix c pre W → (∃ suf, xs = pre ++ suf) → W.heap[E]? = some (.deferred (some [])) → c.wp P Q { a with defers := mark E :: a.defers } W) :
    (Code.rangeFunc g ps assign body).wp P Q a w := by
  refine (wpIn_wide (n := 0)).1 (wpIn_rangeFunc ?_)
  intro fn _
  rw [show Fence.wide.round = none from rfl]
  obtain ⟨rec, hrec⟩ : ∃ rec : LoopState → Option Code → Loop, rec = fun st pe => { state := st, pending := pe, fn, tmps := a.tmps, params := ps, assign, body, defers := w.heap.size } := ⟨_, rfl⟩
  obtain ⟨W1, hW1⟩ : ∃ W1, (w.alloc (.deferred (some []))).alloc (.loop (rec .ready none)) = W1 := ⟨_, rfl⟩
  have hL1 : W1.heap[w.heap.size + 1]? = some (.loop (rec .ready none)) := by
    rw [← hW1]; have := World.alloc_heap_new (w.alloc (.deferred (some []))) (.loop (rec .ready none)); rwa [World.size_alloc] at this
  have hK1 : W1.heap[w.heap.size]? = some (.deferred (some [])) := by
    rw [← hW1]; exact (Below.heap_alloc _ _ _ (by simp)).trans (World.alloc_heap_new w _)
  have hkw : Keep w W1 := by rw [← hW1]; exact ((Keep.refl w).alloc _).alloc _
  have hI1 : I [] W1 := (hI []).keep _ _ h0 hkw
  have hblk : ∀ {A B : World} {k : Nat} {o : Obj}, Keep A B → A.heap[k]? = some o → B.heap[k]? = some o := fun hk h => (hk.block _ (Array.getElem?_eq_some_iff.1 h).1).trans h
  refine ⟨w.heap.size + 1, [mark w.heap.size], W1, { target := .fn (.func gf) lb, args := #[.func (.yield (w.heap.size + 1)) #[] #[]] }, W1, gf,
    #[.func (.yield (w.heap.size + 1)) #[] #[]] ++ lb, W1, ?_, ?_, ?_, ?_, fun h => (by cases h), callsIn_wide.2 ?_⟩
  · rw [← hW1, hrec]; exact run_enterLoop_outer _ _ _ _ _
  · simp only [resolve, hg]
    simp [go_sem]
  · intro f' _; trivial
  · simp [invoke, go_sem, eg]
  · refine (hit (w.heap.size + 1)
      (fun pre W => I pre W ∧ W.heap[w.heap.size + 1]? = some (.loop (rec .ready none)) ∧ W.heap[w.heap.size]? = some (.deferred (some [])))
      (fun pre W => ∃ c, Ix c pre W ∧ W.heap[w.heap.size + 1]? = some (.loop (rec .done (some c))) ∧ W.heap[w.heap.size]? = some (.deferred (some [])))
      W1 (fun s A B h hk => ⟨(hI s).keep _ _ h.1 hk, hblk hk h.2.1, hblk hk h.2.2⟩) (fun s A B ⟨c, h1, h2, h3⟩ hk => ⟨c, (hIx c s).keep _ _ h1 hk, hblk hk h2, hblk hk h3⟩) (fun s A h => hID s A h.1) ?_ ⟨hI1, hL1, hK1⟩).mono ?_
    · rintro pre x suf W hxs ⟨hi, hl, hk⟩
      have hlt : w.heap.size + 1 < W.heap.size := (Array.getElem?_eq_some_iff.1 hl).1
      have hy := run_yield (P := P) (args := encs x) hl (by rw [hrec]; exact hps x)
      rw [hrec] at hy
      refine ⟨fn, _, assign, body, hy, roundIn_of_wpIn trivial (hassign _ pre x suf W _ hxs hi fun a₁ W₁ hx₁ hk₁ => ?_)⟩
      have hl₁ := hblk hk₁ hl
      have hd₁ := hblk hk₁ hk
      have hlt₁ : w.heap.size + 1 < W₁.heap.size := (Array.getElem?_eq_some_iff.1 hl₁).1
      refine ⟨_, run_beginRound hl₁ (by rw [hrec]), ?_⟩
      have hl2 : (W₁.putObj (w.heap.size + 1) (.loop { rec .ready none with state := .busy })).heap[w.heap.size + 1]? = some (.loop { rec .ready none with state := .busy }) := World.putObj_heap_same hlt₁
      have hk2 : (W₁.putObj (w.heap.size + 1) (.loop { rec .ready none with state := .busy })).heap[w.heap.size]? = some (.deferred (some [])) := (World.putObj_heap_other (by omega)).trans hd₁
      refine wpIn_mono (hbody _ pre x suf a₁ _ hxs ((hI pre).put _ _ _ _ ((hI pre).keep _ _ hi hk₁) (by omega) hl₁ rfl) ((hAx x a₁).put _ _ _ _ hx₁ (by omega) hl₁ rfl)) ?_
      have fin : ∀ (jump : Option Code) (W3 : World), KeepsFrom w.heap.size (W₁.putObj (w.heap.size + 1) (.loop { rec .ready none with state := .busy })) W3 →
          (Instr.endRound (w.heap.size + 1) jump).run P W3 = .ok (.bool jump.isNone) (W3.putObj (w.heap.size + 1) (.loop (rec (if jump.isNone then .ready else .done) jump))) ∧
          W3.heap[w.heap.size + 1]? = some (.loop { rec .ready none with state := .busy }) ∧
          (W3.putObj (w.heap.size + 1) (.loop (rec (if jump.isNone then .ready else .done) jump))).heap[w.heap.size + 1]? = some (.loop (rec (if jump.isNone then .ready else .done) jump)) ∧
          (W3.putObj (w.heap.size + 1) (.loop (rec (if jump.isNone then .ready else .done) jump))).heap[w.heap.size]? = some (.deferred (some [])) := fun jump W3 hk3 => by
        have hl3 := hk3.same _ _ (by omega) hl2 rfl
        have := run_endRound (P := P) jump hl3
        rw [hrec] at this ⊢
        exact ⟨this, by rw [hrec] at hl3; exact hl3, World.putObj_heap_same (Array.getElem?_eq_some_iff.1 hl3).1, (World.putObj_heap_other (by omega)).trans (hk3.same _ _ (Nat.le_refl _) hk2 rfl)⟩
      rintro e a3 W3 hp
      cases e with
      | normal =>
        obtain ⟨hk3, hi3⟩ := hp
        obtain ⟨hr, hl3, hl4, hk4⟩ := fin none W3 hk3
        exact ⟨_, _, hr, .inl ⟨rfl, (hI _).put _ _ _ _ hi3 (by omega) hl3 rfl, hl4, hk4⟩⟩
      | ret =>
        obtain ⟨hk3, hi3⟩ := hp
        obtain ⟨hr, hl3, hl4, hk4⟩ := fin (some .ret) W3 hk3
        exact ⟨_, _, hr, .inr ⟨rfl, .ret, (hIx _ _).put _ _ _ _ hi3 (by omega) hl3 rfl, hl4, hk4⟩⟩
      | exit id =>
        obtain ⟨hk3, hi3⟩ := hp
        obtain ⟨hr, hl3, hl4, hk4⟩ := fin (some (.exit id)) W3 hk3
        exact ⟨_, _, hr, .inr ⟨rfl, .exit id, (hIx _ _).put _ _ _ _ hi3 (by omega) hl3 rfl, hl4, hk4⟩⟩
      | goto t =>
        obtain ⟨hk3, hi3⟩ := hp
        obtain ⟨hr, hl3, hl4, hk4⟩ := fin (some (.goto t)) W3 hk3
        exact ⟨_, _, hr, .inr ⟨rfl, .goto t, (hIx _ _).put _ _ _ _ hi3 (by omega) hl3 rfl, hl4, hk4⟩⟩
      | panic ch => exact hp.elim
      | outgrown => exact hp.elim
    · rintro e W2 ⟨⟨v, rfl⟩, (⟨hi, hl, hk⟩ | ⟨pre, ⟨c, hi, hl, hk⟩, hsuf⟩)⟩
      · exact ⟨none, _, by have := run_endLoop (P := P) hl (by rw [hrec]; simp); rw [hrec] at this; exact this, hdone _ _ (Nat.le_refl _) ((hI _).put _ _ _ _ hi (by omega) hl rfl) ((World.putObj_heap_other (by omega)).trans hk)⟩
      · exact ⟨some c, _, by have := run_endLoop (P := P) hl (by rw [hrec]; simp); rw [hrec] at this; exact this,
          (wpIn_wide (n := 0)).2 (hstop _ c pre _ (Nat.le_refl _) ((hIx c _).put _ _ _ _ hi (by omega) hl rfl) hsuf ((World.putObj_heap_other (by omega)).trans hk))⟩

theorem heap_set_ne {W : World} {a : Addr} {v : Value} {E : Nat} (h : a.block ≠ E) : (W.setCell a v).heap[E]? = W.heap[E]? := by
  simp only [World.setCell, Array.getElem?_modify]
  rw [if_neg h]
theorem heap_keep {W W' : World} {E : Nat} {o : Obj} (hk : Keep W W') (h : W.heap[E]? = some o) : W'.heap[E]? = some o := (hk.block _ (Array.getElem?_eq_some_iff.1 h).1).trans h
theorem heap_lt {W : World} {E : Nat} {o : Obj} (h : W.heap[E]? = some o) : E < W.heap.size := (Array.getElem?_eq_some_iff.1 h).1
theorem cell_put {W : World} {E : Nat} {o o' : Obj} {a : Addr} {u : Value} (h : W.cell? a = some u) (hE : W.heap[E]? = some o) (ho : o.isCells = false) : (W.putObj E o').cell? a = some u :=
  cell_kept h (grownBy_putObj' W E o') (put_row (o' := o') hE ho)
theorem Stable.hpure {B : Nat} {p : Prop} {I : World → Prop} (h : Stable B I) : Stable B fun W => p ∧ I W := (Stable.pure p).and h
/-- The same: the frame behind the assignment told by a number. -/
theorem wp_range_frame {α : Type} {g : Operand} {ps : Array Tmp} {assign body : Code} {Q : Exit → Act → World → Prop} {a : Act} {w : World} {gf : Nat} {lb : Array Value} (frame : α → Nat → Act) (hg : a.eval g = .func (.func gf) #[] lb)
    (eg : ∀ args w, (callFunc gf args).run P w = .ok (.enter gf args) w) {encs : α → Array Value} {xs : List α} {D : World → Prop} (hit : Iter P gf lb encs xs D) (hps : ∀ x, (encs x).size = ps.size)
    (I : List α → World → Prop) (Ix : Code → List α → World → Prop) (C : α → Nat → World → Prop) (hI : ∀ s, Stable w.heap.size (I s)) (hIx : ∀ c s, Stable w.heap.size (Ix c s)) (hC : ∀ x b, Stable w.heap.size (C x b))
    (hID : ∀ s A, I s A → D A) (h0 : I [] w)
    (hassign : ∀ (r : Nat) (pre : List α) (x : α) (suf : List α) (W : World) (K : Act → World → Prop), xs = pre ++ x :: suf → I pre W → (∀ b W₁, C x b W₁ → Keep W W₁ → K (frame x b) W₁) →
      assign.wpIn (Fence.wide.inRound r) 0 P (Exit.then K (fun _ _ _ => False)) { tmps := (ps.zip (encs x)).foldl (fun t (p, v) => t.setIfInBounds p v) a.tmps, defers := [] } W)
    (hbody : ∀ (r : Nat) (pre : List α) (x : α) (suf : List α) (b : Nat) (W : World), xs = pre ++ x :: suf → I pre W → C x b W → body.wpIn (Fence.wide.inRound r) 0 P (RoundQ w.heap.size I Ix (pre ++ [x]) W) (frame x b) W)
    (hdone : ∀ (E : Nat) (W : World), w.heap.size ≤ E → I xs W → W.heap[E]? = some (.deferred (some [])) → Q .normal { a with defers := mark E :: a.defers } W)
    (hstop : ∀ (E : Nat) (c : Code) (pre : List α) (W : World), w.heap.size ≤ E → Ix c pre W → (∃ suf, xs = pre ++ suf) → W.heap[E]? = some (.deferred (some [])) → c.wp P Q { a with defers := mark E :: a.defers } W) :
    (Code.rangeFunc g ps assign body).wp P Q a w :=
  wp_range hg eg hit hps I Ix (fun x a₁ W => ∃ b, a₁ = frame x b ∧ C x b W) hI hIx (fun x a₁ => Stable.ex fun b => Stable.hpure (hC x b)) hID h0
    (fun r pre x suf W K hx hi hK => hassign r pre x suf W K hx hi fun b W₁ hc hk => hK _ _ ⟨b, rfl, hc⟩ hk)
    (fun r pre x suf a₁ W hx hi ⟨b, ha, hc⟩ => by subst ha; exact hbody r pre x suf b W hx hi hc) hdone hstop
/-- Over an iterator that yields nothing. -/
theorem wp_range_nil {α : Type} {g : Operand} {ps : Array Tmp} {assign body : Code} {Q : Exit → Act → World → Prop} {a : Act} {w : World} {gf : Nat} {lb : Array Value} (hg : a.eval g = .func (.func gf) #[] lb)
    (eg : ∀ args w, (callFunc gf args).run P w = .ok (.enter gf args) w) {encs : α → Array Value} {D : World → Prop} (hit : Iter P gf lb encs [] D) (hps : ∀ x, (encs x).size = ps.size) (hD : ∀ W, Keep w W → D W)
    (hdone : ∀ (E : Nat) (p : GB), w.heap.size ≤ E → Hid ((w.gro p).heap[E]? = some (.deferred (some []))) → Q .normal { a with defers := mark E :: a.defers } (w.gro p)) : (Code.rangeFunc g ps assign body).wp P Q a w := by
  refine wp_range hg eg hit hps (fun _ W => Keep w W) (fun _ _ _ => False) (fun _ _ _ => False) (fun _ => Stable.below w (Nat.le_refl _)) (fun _ _ => Stable.pure False) (fun _ _ => Stable.pure False) (fun _ A h => hD A h) (Keep.refl w) ?_ ?_ ?_ ?_
  · intro r pre x suf W K hx
    simp at hx
  · intro r pre x suf a₁ W hx
    simp at hx
  · intro E W hE hk hb
    obtain ⟨p, rfl⟩ := gro_of_below w hk
    exact hdone E p hE (Lib.hid hb)
  · intro E c pre W hE h
    exact h.elim

/-- What a function's body with such statements comes to. -/
def PostM (P : Program) (fn : Func) (R : Ending → World → Prop) : Exit → Act → World → Prop := bodyPostM Fence.wide 0 P fn R
theorem calls_of_marks {f : FuncId} {fn : Func} {c : Code} {args : Array Value} {w : World} {R : Ending → World → Prop} (hf : P.funcs[f]? = some fn) (hb : fn.body = some c)
    (h : c.wp P (PostM P fn R) { tmps := args ++ Array.replicate (fn.ntmps - args.size) undef, defers := [] } w) : Calls P f args w R :=
  (callsIn_wide (n := 0)).1 (callsIn_of_wp_marks hf hb trivial ((wpIn_wide (n := 0)).2 h))
theorem postM_of_body {fn : Func} {R : Ending → World → Prop} {a : Act} {w : World} {e : Exit} (he : e = .ret ∨ e = .normal) (hd : a.defers = []) {v : Value} (h1 : (results fn a.tmps).run P w = .ok v w) (h2 : R (.returned v) w) : PostM P fn R e a w := by
  have : LeavesInM Fence.wide 0 P fn a.tmps R a.defers .returning w := by rw [hd]; exact ⟨v, h1, h2⟩
  rcases he with rfl | rfl <;> exact this
theorem postM_mark {fn : Func} {R : Ending → World → Prop} {a : Act} {w : World} {e : Exit} (he : e = .ret ∨ e = .normal) {E : Nat} {ds : List Deferred} (hd : a.defers = mark E :: ds) (hk : w.heap[E]? = some (.deferred (some [])))
    (h : PostM P fn R e { a with defers := ds } (w.putObj E (.deferred none))) : PostM P fn R e a w := by
  have : LeavesInM Fence.wide 0 P fn a.tmps R ds .returning (w.putObj E (.deferred none)) → LeavesInM Fence.wide 0 P fn a.tmps R a.defers .returning w := fun h => by
    rw [hd]; exact ⟨by simp, .inl ⟨_, _, rfl, run_takeDeferred hk, h⟩⟩
  rcases he with rfl | rfl <;> exact this h
end Go.Zone
