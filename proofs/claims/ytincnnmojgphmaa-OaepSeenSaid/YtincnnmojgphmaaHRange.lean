/- A range over a function, for iterators that keep a state of their own in cells: one law for the caller, the word of an iterator. Nothing of the program. -/
import Derived.RangeFuncNested
import Derived.RangeFuncBound
import Derived.RangeFuncCalls
import Derived.RangeFuncLeaves
import Derived.Below
set_option linter.unusedVariables false
set_option linter.unusedSimpArgs false
namespace Go.Proofs.Ytincnnmojgphmaa.H
open Go.RowKit

/-- Outside the blocks of S the world is as it was; new blocks may lie behind. -/
structure Away (S : Nat → Prop) (W W' : World) : Prop where
  size : W.heap.size ≤ W'.heap.size
  os : W'.os = W.os
  tape : W'.tape = W.tape
  output : W'.output = W.output
  block : ∀ k, k < W.heap.size → ¬ S k → W'.heap[k]? = W.heap[k]?
theorem Away.refl (S : Nat → Prop) (W : World) : Away S W W := ⟨Nat.le_refl _, rfl, rfl, rfl, fun _ _ _ => rfl⟩
theorem Away.trans {S : Nat → Prop} {A B C : World} (h : Away S A B) (k : Away S B C) : Away S A C :=
  ⟨Nat.le_trans h.size k.size, k.os.trans h.os, k.tape.trans h.tape, k.output.trans h.output, fun i hi hs => (k.block i (Nat.lt_of_lt_of_le hi h.size) hs).trans (h.block i hi hs)⟩
theorem Away.mono {S S' : Nat → Prop} {A B : World} (h : Away S A B) (hs : ∀ k, S k → S' k) : Away S' A B := ⟨h.size, h.os, h.tape, h.output, fun k hk hn => h.block k hk (fun e => hn (hs k e))⟩
theorem Away.of_below {S : Nat → Prop} {A B : World} (h : Below A.heap.size A B) : Away S A B := ⟨h.size, h.os, h.tape, h.output, fun k hk _ => h.block k hk⟩
theorem Away.below {S : Nat → Prop} {n : Nat} {w A B : World} (h : Below n w A) (k : Away S A B) (hs : ∀ i, S i → n ≤ i) (hn : n ≤ A.heap.size) : Below n w B :=
  ⟨k.os.trans h.os, k.tape.trans h.tape, k.output.trans h.output, Nat.le_trans h.size k.size, fun i hi => (k.block i (Nat.lt_of_lt_of_le hi hn) (fun e => by have := hs i e; omega)).trans (h.block i hi)⟩
theorem Away.setCell {S : Nat → Prop} {A B : World} (h : Away S A B) {p : Addr} (hp : S p.block ∨ A.heap.size ≤ p.block) (v : Value) : Away S A (B.setCell p v) :=
  ⟨by simpa [World.setCell] using h.size, h.os, h.tape, h.output, fun k hk hs => (Below.heap_setCell _ _ _ _ (by rintro rfl; rcases hp with hp | hp; exact hs hp; omega)).trans (h.block k hk hs)⟩
theorem Away.alloc {S : Nat → Prop} {A B : World} (h : Away S A B) (o : Obj) : Away S A (B.alloc o) :=
  ⟨by simpa using Nat.le_succ_of_le h.size, h.os, h.tape, h.output, fun k hk hs => (Below.heap_alloc _ _ _ (Nat.lt_of_lt_of_le hk h.size)).trans (h.block k hk hs)⟩
theorem Away.putObj {S : Nat → Prop} {A B : World} (h : Away S A B) {r : Nat} (hr : S r ∨ A.heap.size ≤ r) (o : Obj) : Away S A (B.putObj r o) :=
  ⟨by simpa using h.size, h.os, h.tape, h.output, fun k hk hs => (World.putObj_heap_other (by rintro rfl; rcases hr with hr | hr; exact hs hr; omega)).trans (h.block k hk hs)⟩

theorem Away.blk {S : Nat → Prop} {A B : World} (h : Away S A B) {k : Nat} {o : Obj} (ho : A.heap[k]? = some o) (hs : ¬ S k) : B.heap[k]? = some o := (h.block k (Array.getElem?_eq_some_iff.1 ho).1 hs).trans ho
/-- The blocks of T lie as they lay. -/
structure Keep (T : Nat → Prop) (W W' : World) : Prop where
  size : W.heap.size ≤ W'.heap.size
  block : ∀ k, k < W.heap.size → T k → W'.heap[k]? = W.heap[k]?
theorem Keep.refl (T : Nat → Prop) (W : World) : Keep T W W := ⟨Nat.le_refl _, fun _ _ _ => rfl⟩
theorem Keep.trans {T : Nat → Prop} {A B C : World} (h : Keep T A B) (k : Keep T B C) : Keep T A C := ⟨Nat.le_trans h.size k.size, fun i hi ht => (k.block i (Nat.lt_of_lt_of_le hi h.size) ht).trans (h.block i hi ht)⟩
theorem Keep.mono {T T' : Nat → Prop} {A B : World} (h : Keep T A B) (ht : ∀ k, T' k → T k) : Keep T' A B := ⟨h.size, fun k hk h' => h.block k hk (ht k h')⟩
theorem Keep.of_away {S T : Nat → Prop} {A B : World} (h : Away S A B) (hd : ∀ k, T k → ¬ S k) : Keep T A B := ⟨h.size, fun k hk ht => h.block k hk (hd k ht)⟩

theorem Keep.setCell {T : Nat → Prop} {A B : World} (h : Keep T A B) {p : Addr} (hp : ¬ T p.block) (v : Value) : Keep T A (B.setCell p v) :=
  ⟨by simpa [World.setCell] using h.size, fun k hk ht => (Below.heap_setCell _ _ _ _ (by rintro rfl; exact hp ht)).trans (h.block k hk ht)⟩
theorem Keep.alloc {T : Nat → Prop} {A B : World} (h : Keep T A B) (o : Obj) : Keep T A (B.alloc o) :=
  ⟨by simpa using Nat.le_succ_of_le h.size, fun k hk ht => (Below.heap_alloc _ _ _ (Nat.lt_of_lt_of_le hk h.size)).trans (h.block k hk ht)⟩
/-- What holds between two rounds doesn't hang on the blocks of S. -/
def Stab (S : Nat → Prop) (J : Nat → World → Prop) : Prop := ∀ i W W', J i W → Away S W W' → J i W'

/-- The word of an iterator: it hands xs 0, xs 1, .. to the loop, till there is none or a round says no; it writes into the blocks of S and new ones alone, and leans on those of T. N bounds the rounds. -/
def IterC {α : Type} (n : Nat) (P : Program) (g : Nat) (lb : Array Value) (encs : α → Array Value) (S T : Nat → Prop) (xs : Nat → Option α) (N : Nat) (w : World) : Prop :=
  ∀ (l : Nat) (J Jx : Nat → World → Prop) (W : World), Below w.heap.size w W → Stab S J → Stab S Jx → (∀ W1, J N W1 → xs N = none) →
    (∀ i x W1, xs i = some x → i < N → J i W1 → YieldAt Fence.wide (n - 1) P l (encs x) W1 fun e W' =>
      (e = .returned (.bool true) ∧ J (i + 1) W' ∧ Keep T W1 W') ∨ (e = .returned (.bool false) ∧ Jx (i + 1) W')) →
    J 0 W →
    CallsIn Fence.wide n P g (#[.func (.yield l) #[] #[]] ++ lb) W fun e W' => (∃ v, e = .returned v) ∧ ((∃ m, m ≤ N ∧ xs m = none ∧ J m W') ∨ ∃ i, Jx i W')

/-- How a round's body may be left. -/
def iterPost (R T : Nat → Prop) (I : Nat → World → Prop) (Ix : Code → Nat → World → Prop) (i : Nat) (W : World) : Exit → Act → World → Prop
  | .normal, _, W' => Keep R W W' ∧ Keep T W W' ∧ I i W'
  | .ret, _, W' => Keep R W W' ∧ Ix .ret i W'
  | .exit id, _, W' => Keep R W W' ∧ Ix (.exit id) i W'
  | .goto t, _, W' => Keep R W W' ∧ Ix (.goto t) i W'
  | .panic _, _, _ => False
  | .outgrown, _, _ => False

theorem wpIn_iter {α : Type} {n : Nat} {P : Program} {g : Operand} {ps : Array Tmp} {assign body : Code} {Q : Exit → Act → World → Prop} {a : Act} {w : World}
    {gf : Nat} {lb : Array Value} (hg : a.eval g = .func (.func gf) #[] lb) (eg : ∀ args w, (callFunc gf args).run P w = .ok (.enter gf args) w)
    {encs : α → Array Value} {S T : Nat → Prop} {xs : Nat → Option α} {N : Nat} {w0 : World} (hseq : IterC (n - 1) P gf lb encs S T xs N w0)
    (hb0 : Below w0.heap.size w0 w) (hS : ∀ k, S k → k < w.heap.size) (hps : ∀ x, (encs x).size = ps.size)
    (I : Nat → World → Prop) (Ix : Code → Nat → World → Prop) (hI : Stab (fun k => S k ∨ w.heap.size ≤ k) I) (hIx : ∀ c, Stab (fun k => S k ∨ w.heap.size ≤ k) (Ix c)) (h0 : I 0 w) (hN : ∀ W, I N W → xs N = none) (a₁ : α → Act)
    (hassign : ∀ (l : Nat) (x : α) (W : World) (K : Act → World → Prop), K (a₁ x) W →
      assign.wpIn (Fence.wide.inRound l) (n - 1 - 1) P (Exit.then K (fun _ _ _ => False)) { tmps := (ps.zip (encs x)).foldl (fun t (p, v) => t.setIfInBounds p v) a.tmps, defers := [] } W)
    (hbody : ∀ (l i : Nat) (x : α) (W : World), xs i = some x → i < N → I i W → w.heap.size + 2 ≤ W.heap.size → body.wpIn (Fence.wide.inRound l) (n - 1 - 1) P (iterPost (fun k => k = w.heap.size ∨ k = w.heap.size + 1) T I Ix (i + 1) W) (a₁ x) W)
    (hT : ∀ k, T k → k < w.heap.size)
    (hdone : ∀ (m : Nat) (W : World), m ≤ N → xs m = none → I m W → W.heap[w.heap.size]? = some (.deferred (some [])) → Q .normal { a with defers := { target := .collected w.heap.size, args := #[] } :: a.defers } W)
    (hstop : ∀ (c : Code) (i : Nat) (W : World), Ix c i W → W.heap[w.heap.size]? = some (.deferred (some [])) → c.wpIn Fence.wide n P Q { a with defers := { target := .collected w.heap.size, args := #[] } :: a.defers } W) :
    (Code.rangeFunc g ps assign body).wpIn Fence.wide n P Q a w := by
  refine wpIn_rangeFunc ?_
  intro fn hfn
  rw [show Fence.wide.round = none from rfl]
  obtain ⟨rec, hrec⟩ : ∃ rec : LoopState → Option Code → Loop, rec = fun st pe => { state := st, pending := pe, fn, tmps := a.tmps, params := ps, assign, body, defers := w.heap.size } := ⟨_, rfl⟩
  obtain ⟨W1, hW1⟩ : ∃ W1, (w.alloc (.deferred (some []))).alloc (.loop (rec .ready none)) = W1 := ⟨_, rfl⟩
  have hL1 : W1.heap[w.heap.size + 1]? = some (.loop (rec .ready none)) := by
    rw [← hW1]; have := World.alloc_heap_new (w.alloc (.deferred (some []))) (.loop (rec .ready none)); rwa [World.size_alloc] at this
  have hK1 : W1.heap[w.heap.size]? = some (.deferred (some [])) := by
    rw [← hW1]; exact (Below.heap_alloc _ _ _ (by simp)).trans (World.alloc_heap_new w _)
  have haw : Away (fun k => S k ∨ w.heap.size ≤ k) w W1 := by rw [← hW1]; exact ((Away.refl _ w).alloc _).alloc _
  have hI1 : I 0 W1 := hI _ _ _ h0 haw
  have hb1 : Below w0.heap.size w0 W1 := by
    rw [← hW1]; exact hb0.trans ((((Below.refl _ w).alloc (Nat.le_refl _) _).alloc (by simp) _).mono hb0.size)
  refine ⟨w.heap.size + 1, [{ target := .collected w.heap.size, args := #[] }], W1, { target := .fn (.func gf) lb, args := #[.func (.yield (w.heap.size + 1)) #[] #[]] }, W1, gf,
    #[.func (.yield (w.heap.size + 1)) #[] #[]] ++ lb, W1, ?_, ?_, ?_, ?_, fun h => by simp [Fence.wide] at h, ?_⟩
  · rw [← hW1, hrec]; exact run_enterLoop_outer _ _ _ _ _
  · simp only [resolve, hg]
    simp [go_sem]
  · intro f' hf'; trivial
  · simp [invoke, go_sem, eg]
  · have hnd : ∀ {A B : World}, Away S A B → Away (fun k => S k ∨ w.heap.size ≤ k) A B := fun h => h.mono (fun _ => .inl)
    have hrk : ∀ {A B : World} {k : Nat} {o : Obj}, w.heap.size ≤ k → A.heap[k]? = some o → Away S A B → B.heap[k]? = some o := fun {A B k o} hk ho h =>
      (h.block k (Array.getElem?_eq_some_iff.1 ho).1 (fun e => by have := hS k e; omega)).trans ho
    refine (hseq (w.heap.size + 1)
      (fun i W => I i W ∧ W.heap[w.heap.size + 1]? = some (.loop (rec .ready none)) ∧ W.heap[w.heap.size]? = some (.deferred (some [])))
      (fun i W => ∃ c, Ix c i W ∧ W.heap[w.heap.size + 1]? = some (.loop (rec .done (some c))) ∧ W.heap[w.heap.size]? = some (.deferred (some [])))
      W1 hb1
      (fun i A B hs h => ⟨hI i A B hs.1 (hnd h), hrk (by omega) hs.2.1 h, hrk (Nat.le_refl _) hs.2.2 h⟩)
      (fun i A B hs h => by
        obtain ⟨c, hc, hl, hk⟩ := hs
        exact ⟨c, hIx c i A B hc (hnd h), hrk (by omega) hl h, hrk (Nat.le_refl _) hk h⟩)
      (fun W h => hN W h.1) ?_ ⟨hI1, hL1, hK1⟩).mono ?_
    · rintro i x W hx hiN ⟨hi, hl, hk⟩
      have hlt : w.heap.size + 1 < W.heap.size := (Array.getElem?_eq_some_iff.1 hl).1
      have hy := run_yield (P := P) (args := encs x) hl (by rw [hrec]; exact hps x)
      rw [hrec] at hy
      refine ⟨fn, _, assign, body, hy, roundIn_of_wpIn hfn (hassign _ x W _ ⟨_, run_beginRound hl (by rw [hrec]), ?_⟩)⟩
      have hl2 : (W.putObj (w.heap.size + 1) (.loop { rec .ready none with state := .busy })).heap[w.heap.size + 1]? = some (.loop { rec .ready none with state := .busy }) := World.putObj_heap_same hlt
      have hk2 : (W.putObj (w.heap.size + 1) (.loop { rec .ready none with state := .busy })).heap[w.heap.size]? = some (.deferred (some [])) := (World.putObj_heap_other (by omega)).trans hk
      have hp : ∀ (A : World) (o : Obj), Away (fun k => S k ∨ w.heap.size ≤ k) A (A.putObj (w.heap.size + 1) o) := fun A o => (Away.refl _ A).putObj (.inl (.inr (by omega))) o
      have hpT : ∀ (A : World) (o : Obj), Keep T A (A.putObj (w.heap.size + 1) o) := fun A o => ⟨by simp, fun k hk ht => World.putObj_heap_other (by have := hT k ht; omega)⟩
      refine wpIn_mono (hbody _ i x _ hx hiN (hI _ _ _ hi (hp _ _)) (by simp; omega)) ?_
      have fin : ∀ (jump : Option Code) (W3 : World), Keep (fun k => k = w.heap.size ∨ k = w.heap.size + 1) (W.putObj (w.heap.size + 1) (.loop { rec .ready none with state := .busy })) W3 →
          (Instr.endRound (w.heap.size + 1) jump).run P W3 = .ok (.bool jump.isNone) (W3.putObj (w.heap.size + 1) (.loop (rec (if jump.isNone then .ready else .done) jump))) ∧
          (W3.putObj (w.heap.size + 1) (.loop (rec (if jump.isNone then .ready else .done) jump))).heap[w.heap.size + 1]? = some (.loop (rec (if jump.isNone then .ready else .done) jump)) ∧
          (W3.putObj (w.heap.size + 1) (.loop (rec (if jump.isNone then .ready else .done) jump))).heap[w.heap.size]? = some (.deferred (some [])) := fun jump W3 hk3 => by
        have hl3 := (hk3.block _ (by simpa using hlt) (.inr rfl)).trans hl2
        have hd3 := (hk3.block _ (by simp; omega) (.inl rfl)).trans hk2
        have := run_endRound (P := P) jump hl3
        rw [hrec] at this ⊢
        exact ⟨this, World.putObj_heap_same (Array.getElem?_eq_some_iff.1 hl3).1, (World.putObj_heap_other (by omega)).trans hd3⟩
      rintro e a3 W3 hpst
      cases e with
      | normal =>
        obtain ⟨hk3, hkp3, hi3⟩ := hpst
        obtain ⟨hr, hl4, hk4⟩ := fin none W3 hk3
        exact ⟨_, _, hr, .inl ⟨rfl, ⟨hI _ _ _ hi3 (hp _ _), hl4, hk4⟩, ((hpT _ _).trans hkp3).trans (hpT _ _)⟩⟩
      | ret =>
        obtain ⟨hk3, hi3⟩ := hpst
        obtain ⟨hr, hl4, hk4⟩ := fin (some .ret) W3 hk3
        exact ⟨_, _, hr, .inr ⟨rfl, _, hIx _ _ _ _ hi3 (hp _ _), hl4, hk4⟩⟩
      | exit id =>
        obtain ⟨hk3, hi3⟩ := hpst
        obtain ⟨hr, hl4, hk4⟩ := fin (some (.exit id)) W3 hk3
        exact ⟨_, _, hr, .inr ⟨rfl, _, hIx _ _ _ _ hi3 (hp _ _), hl4, hk4⟩⟩
      | goto t =>
        obtain ⟨hk3, hi3⟩ := hpst
        obtain ⟨hr, hl4, hk4⟩ := fin (some (.goto t)) W3 hk3
        exact ⟨_, _, hr, .inr ⟨rfl, _, hIx _ _ _ _ hi3 (hp _ _), hl4, hk4⟩⟩
      | panic chain => exact hpst.elim
      | outgrown => exact hpst.elim
    · have he : ∀ {A : World} {st : LoopState} {pe : Option Code}, st ≠ .busy → A.heap[w.heap.size + 1]? = some (.loop (rec st pe)) → A.heap[w.heap.size]? = some (.deferred (some [])) →
          (Instr.endLoop (w.heap.size + 1)).run P A = .ok pe (A.putObj (w.heap.size + 1) (.loop (rec .exhausted pe))) ∧ (A.putObj (w.heap.size + 1) (.loop (rec .exhausted pe))).heap[w.heap.size]? = some (.deferred (some [])) := fun {A st pe} hst hl hk => by
        have := run_endLoop (P := P) hl (by rw [hrec]; exact hst)
        rw [hrec] at this ⊢
        exact ⟨this, (World.putObj_heap_other (by omega)).trans hk⟩
      have hp : ∀ (A : World) (o : Obj), Away (fun k => S k ∨ w.heap.size ≤ k) A (A.putObj (w.heap.size + 1) o) := fun A o => (Away.refl _ A).putObj (.inl (.inr (by omega))) o
      rintro e W' ⟨⟨v, rfl⟩, ⟨m, hm, hx, hi, hl, hk⟩ | ⟨i, c, hc, hl, hk⟩⟩
      · obtain ⟨h1, h2⟩ := he (by simp) hl hk
        exact ⟨_, _, h1, hdone m _ hm hx (hI _ _ _ hi (hp _ _)) h2⟩
      · obtain ⟨h1, h2⟩ := he (by simp) hl hk
        exact ⟨_, _, h1, hstop c i _ (hIx _ _ _ _ hc (hp _ _)) h2⟩
end Go.Proofs.Ytincnnmojgphmaa.H

set_option linter.unusedVariables false
set_option linter.unusedSimpArgs false
namespace Go.Proofs.Ytincnnmojgphmaa.H
open Go.RowKit

/-- The word of an iterator that goes on for ever: in round i it hands over an x with R i x; it writes into new blocks alone, and leans on those of T. N bounds the rounds. -/
def IterR (n : Nat) (P : Program) (g : Nat) (lb : Array Value) (R : Nat → Array Value → World → Prop) (T : Nat → Prop) (N : Nat) (w : World) : Prop :=
  ∀ (l : Nat) (J Jx : Nat → World → Prop) (W : World), Below w.heap.size w W → Stab (fun _ => False) J → Stab (fun _ => False) Jx → (∀ W1, ¬ J N W1) →
    (∀ i x W1, R i x W1 → i < N → J i W1 → YieldAt Fence.wide (n - 1) P l x W1 fun e W' =>
      (e = .returned (.bool true) ∧ J (i + 1) W' ∧ Keep T W1 W') ∨ (e = .returned (.bool false) ∧ Jx (i + 1) W')) →
    J 0 W →
    CallsIn Fence.wide n P g (#[.func (.yield l) #[] #[]] ++ lb) W fun e W' => (∃ v, e = .returned v) ∧ ∃ i, Jx i W'

theorem wpIn_iterR {n : Nat} {P : Program} {g : Operand} {ps : Array Tmp} {assign body : Code} {Q : Exit → Act → World → Prop} {a : Act} {w : World}
    {gf : Nat} {lb : Array Value} (hg : a.eval g = .func (.func gf) #[] lb) (eg : ∀ args w, (callFunc gf args).run P w = .ok (.enter gf args) w)
    {R : Nat → Array Value → World → Prop} {T : Nat → Prop} {N : Nat} {w0 : World} (hseq : IterR (n - 1) P gf lb R T N w0)
    (hb0 : Below w0.heap.size w0 w) (hps : ∀ i x W, R i x W → x.size = ps.size) (hR : ∀ i x W q o, R i x W → W.heap[w.heap.size + 1]? = some (.loop q) → R i x (W.putObj (w.heap.size + 1) o))
    (I : Nat → World → Prop) (Ix : Code → Nat → World → Prop) (hI : Stab (fun k => w.heap.size ≤ k) I) (hIx : ∀ c, Stab (fun k => w.heap.size ≤ k) (Ix c)) (h0 : I 0 w) (hN : ∀ W, ¬ I N W) (a₁ : Array Value → Act)
    (hassign : ∀ (l : Nat) (x : Array Value) (W : World) (K : Act → World → Prop), x.size = ps.size → K (a₁ x) W →
      assign.wpIn (Fence.wide.inRound l) (n - 1 - 1) P (Exit.then K (fun _ _ _ => False)) { tmps := (ps.zip x).foldl (fun t (p, v) => t.setIfInBounds p v) a.tmps, defers := [] } W)
    (hbody : ∀ (l i : Nat) (x : Array Value) (W : World), R i x W → i < N → I i W → w.heap.size + 2 ≤ W.heap.size → body.wpIn (Fence.wide.inRound l) (n - 1 - 1) P (iterPost (fun k => k = w.heap.size ∨ k = w.heap.size + 1) T I Ix (i + 1) W) (a₁ x) W)
    (hT : ∀ k, T k → k < w.heap.size)
    (hstop : ∀ (c : Code) (i : Nat) (W : World), Ix c i W → W.heap[w.heap.size]? = some (.deferred (some [])) → c.wpIn Fence.wide n P Q { a with defers := { target := .collected w.heap.size, args := #[] } :: a.defers } W) :
    (Code.rangeFunc g ps assign body).wpIn Fence.wide n P Q a w := by
  refine wpIn_rangeFunc ?_
  intro fn hfn
  rw [show Fence.wide.round = none from rfl]
  obtain ⟨rec, hrec⟩ : ∃ rec : LoopState → Option Code → Loop, rec = fun st pe => { state := st, pending := pe, fn, tmps := a.tmps, params := ps, assign, body, defers := w.heap.size } := ⟨_, rfl⟩
  obtain ⟨W1, hW1⟩ : ∃ W1, (w.alloc (.deferred (some []))).alloc (.loop (rec .ready none)) = W1 := ⟨_, rfl⟩
  have hL1 : W1.heap[w.heap.size + 1]? = some (.loop (rec .ready none)) := by
    rw [← hW1]; have := World.alloc_heap_new (w.alloc (.deferred (some []))) (.loop (rec .ready none)); rwa [World.size_alloc] at this
  have hK1 : W1.heap[w.heap.size]? = some (.deferred (some [])) := by
    rw [← hW1]; exact (Below.heap_alloc _ _ _ (by simp)).trans (World.alloc_heap_new w _)
  have haw : Away (fun k => w.heap.size ≤ k) w W1 := by rw [← hW1]; exact ((Away.refl _ w).alloc _).alloc _
  have hI1 : I 0 W1 := hI _ _ _ h0 haw
  have hb1 : Below w0.heap.size w0 W1 := by
    rw [← hW1]; exact hb0.trans ((((Below.refl _ w).alloc (Nat.le_refl _) _).alloc (by simp) _).mono hb0.size)
  refine ⟨w.heap.size + 1, [{ target := .collected w.heap.size, args := #[] }], W1, { target := .fn (.func gf) lb, args := #[.func (.yield (w.heap.size + 1)) #[] #[]] }, W1, gf,
    #[.func (.yield (w.heap.size + 1)) #[] #[]] ++ lb, W1, ?_, ?_, ?_, ?_, fun h => by simp [Fence.wide] at h, ?_⟩
  · rw [← hW1, hrec]; exact run_enterLoop_outer _ _ _ _ _
  · simp only [resolve, hg]
    simp [go_sem]
  · intro f' hf'; trivial
  · simp [invoke, go_sem, eg]
  · have hnd : ∀ {A B : World}, Away (fun _ => False) A B → Away (fun k => w.heap.size ≤ k) A B := fun h => h.mono (fun _ h => h.elim)
    have hrk : ∀ {A B : World} {k : Nat} {o : Obj}, w.heap.size ≤ k → A.heap[k]? = some o → Away (fun _ => False) A B → B.heap[k]? = some o := fun {A B k o} hk ho h =>
      (h.block k (Array.getElem?_eq_some_iff.1 ho).1 (fun e => e)).trans ho
    refine (hseq (w.heap.size + 1)
      (fun i W => I i W ∧ W.heap[w.heap.size + 1]? = some (.loop (rec .ready none)) ∧ W.heap[w.heap.size]? = some (.deferred (some [])))
      (fun i W => ∃ c, Ix c i W ∧ W.heap[w.heap.size + 1]? = some (.loop (rec .done (some c))) ∧ W.heap[w.heap.size]? = some (.deferred (some [])))
      W1 hb1
      (fun i A B hs h => ⟨hI i A B hs.1 (hnd h), hrk (by omega) hs.2.1 h, hrk (Nat.le_refl _) hs.2.2 h⟩)
      (fun i A B hs h => by
        obtain ⟨c, hc, hl, hk⟩ := hs
        exact ⟨c, hIx c i A B hc (hnd h), hrk (by omega) hl h, hrk (Nat.le_refl _) hk h⟩)
      (fun W h => hN W h.1) ?_ ⟨hI1, hL1, hK1⟩).mono ?_
    · rintro i x W hx hiN ⟨hi, hl, hk⟩
      have hlt : w.heap.size + 1 < W.heap.size := (Array.getElem?_eq_some_iff.1 hl).1
      have hy := run_yield (P := P) (args := x) hl (by rw [hrec]; exact hps _ x _ hx)
      rw [hrec] at hy
      refine ⟨fn, _, assign, body, hy, roundIn_of_wpIn hfn (hassign _ x W _ (hps _ x _ hx) ⟨_, run_beginRound hl (by rw [hrec]), ?_⟩)⟩
      have hl2 : (W.putObj (w.heap.size + 1) (.loop { rec .ready none with state := .busy })).heap[w.heap.size + 1]? = some (.loop { rec .ready none with state := .busy }) := World.putObj_heap_same hlt
      have hk2 : (W.putObj (w.heap.size + 1) (.loop { rec .ready none with state := .busy })).heap[w.heap.size]? = some (.deferred (some [])) := (World.putObj_heap_other (by omega)).trans hk
      have hp : ∀ (A : World) (o : Obj), Away (fun k => w.heap.size ≤ k) A (A.putObj (w.heap.size + 1) o) := fun A o => (Away.refl _ A).putObj (.inl (by omega)) o
      have hpT : ∀ (A : World) (o : Obj), Keep T A (A.putObj (w.heap.size + 1) o) := fun A o => ⟨by simp, fun k hk ht => World.putObj_heap_other (by have := hT k ht; omega)⟩
      refine wpIn_mono (hbody _ i x _ (hR _ _ _ _ _ hx hl) hiN (hI _ _ _ hi (hp _ _)) (by simp; omega)) ?_
      have fin : ∀ (jump : Option Code) (W3 : World), Keep (fun k => k = w.heap.size ∨ k = w.heap.size + 1) (W.putObj (w.heap.size + 1) (.loop { rec .ready none with state := .busy })) W3 →
          (Instr.endRound (w.heap.size + 1) jump).run P W3 = .ok (.bool jump.isNone) (W3.putObj (w.heap.size + 1) (.loop (rec (if jump.isNone then .ready else .done) jump))) ∧
          (W3.putObj (w.heap.size + 1) (.loop (rec (if jump.isNone then .ready else .done) jump))).heap[w.heap.size + 1]? = some (.loop (rec (if jump.isNone then .ready else .done) jump)) ∧
          (W3.putObj (w.heap.size + 1) (.loop (rec (if jump.isNone then .ready else .done) jump))).heap[w.heap.size]? = some (.deferred (some [])) := fun jump W3 hk3 => by
        have hl3 := (hk3.block _ (by simpa using hlt) (.inr rfl)).trans hl2
        have hd3 := (hk3.block _ (by simp; omega) (.inl rfl)).trans hk2
        have := run_endRound (P := P) jump hl3
        rw [hrec] at this ⊢
        exact ⟨this, World.putObj_heap_same (Array.getElem?_eq_some_iff.1 hl3).1, (World.putObj_heap_other (by omega)).trans hd3⟩
      rintro e a3 W3 hpst
      cases e with
      | normal =>
        obtain ⟨hk3, hkp3, hi3⟩ := hpst
        obtain ⟨hr, hl4, hk4⟩ := fin none W3 hk3
        exact ⟨_, _, hr, .inl ⟨rfl, ⟨hI _ _ _ hi3 (hp _ _), hl4, hk4⟩, ((hpT _ _).trans hkp3).trans (hpT _ _)⟩⟩
      | ret =>
        obtain ⟨hk3, hi3⟩ := hpst
        obtain ⟨hr, hl4, hk4⟩ := fin (some .ret) W3 hk3
        exact ⟨_, _, hr, .inr ⟨rfl, _, hIx _ _ _ _ hi3 (hp _ _), hl4, hk4⟩⟩
      | exit id =>
        obtain ⟨hk3, hi3⟩ := hpst
        obtain ⟨hr, hl4, hk4⟩ := fin (some (.exit id)) W3 hk3
        exact ⟨_, _, hr, .inr ⟨rfl, _, hIx _ _ _ _ hi3 (hp _ _), hl4, hk4⟩⟩
      | goto t =>
        obtain ⟨hk3, hi3⟩ := hpst
        obtain ⟨hr, hl4, hk4⟩ := fin (some (.goto t)) W3 hk3
        exact ⟨_, _, hr, .inr ⟨rfl, _, hIx _ _ _ _ hi3 (hp _ _), hl4, hk4⟩⟩
      | panic chain => exact hpst.elim
      | outgrown => exact hpst.elim
    · have he : ∀ {A : World} {st : LoopState} {pe : Option Code}, st ≠ .busy → A.heap[w.heap.size + 1]? = some (.loop (rec st pe)) → A.heap[w.heap.size]? = some (.deferred (some [])) →
          (Instr.endLoop (w.heap.size + 1)).run P A = .ok pe (A.putObj (w.heap.size + 1) (.loop (rec .exhausted pe))) ∧ (A.putObj (w.heap.size + 1) (.loop (rec .exhausted pe))).heap[w.heap.size]? = some (.deferred (some [])) := fun {A st pe} hst hl hk => by
        have := run_endLoop (P := P) hl (by rw [hrec]; exact hst)
        rw [hrec] at this ⊢
        exact ⟨this, (World.putObj_heap_other (by omega)).trans hk⟩
      have hp : ∀ (A : World) (o : Obj), Away (fun k => w.heap.size ≤ k) A (A.putObj (w.heap.size + 1) o) := fun A o => (Away.refl _ A).putObj (.inl (by omega)) o
      rintro e W' ⟨⟨v, rfl⟩, ⟨i, c, hc, hl, hk⟩⟩
      · obtain ⟨h1, h2⟩ := he (by simp) hl hk
        exact ⟨_, _, h1, hstop c i _ (hIx _ _ _ _ hc (hp _ _)) h2⟩
end Go.Proofs.Ytincnnmojgphmaa.H
