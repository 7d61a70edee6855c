/- A range over a function whose iterator makes a block of its own and keeps its state in it; the loop may make blocks too. Nothing of the program. -/
import Derived.Test.YtflchcdmgceecaaHRange
set_option linter.unusedVariables false
set_option linter.unusedSimpArgs false
namespace Go.Proofs.Ytflchcdmgceecaa.H
open Go.RowKit

/-- As IterC, for a world of a known size when the iterator starts: S and T may name blocks that it makes. -/
def IterZ {α : Type} (n : Nat) (P : Program) (g : Nat) (lb : Array Value) (encs : α → Array Value) (S T : Nat → Prop) (xs : Nat → Option α) (N Z : Nat) (w : World) : Prop :=
  ∀ (l : Nat) (J Jx : Nat → World → Prop) (W : World), Below w.heap.size w W → W.heap.size = Z → Stab S J → Stab S Jx → (∀ W1, J N W1 → xs N = none) →
    (∀ i x W1, xs i = some x → i < N → J i W1 → YieldAt Fence.wide (n - 1) P l (encs x) W1 fun e W' =>
      (e = .returned (.bool true) ∧ J (i + 1) W' ∧ Keep T W1 W') ∨ (e = .returned (.bool false) ∧ Jx (i + 1) W')) →
    J 0 W →
    CallsIn Fence.wide n P g (#[.func (.yield l) #[] #[]] ++ lb) W fun e W' => (∃ v, e = .returned v) ∧ ((∃ m, m ≤ N ∧ xs m = none ∧ J m W') ∨ ∃ i, Jx i W')

theorem wpIn_iterZ {α : Type} {n : Nat} {P : Program} {g : Operand} {ps : Array Tmp} {assign body : Code} {Q : Exit → Act → World → Prop} {a : Act} {w : World}
    {gf : Nat} {lb : Array Value} (hg : a.eval g = .func (.func gf) #[] lb) (eg : ∀ args w, (callFunc gf args).run P w = .ok (.enter gf args) w)
    {encs : α → Array Value} {S T : Nat → Prop} {xs : Nat → Option α} {N : Nat} {w0 : World} (hseq : IterZ (n - 1) P gf lb encs S T xs N (w.heap.size + 2) w0)
    (hb0 : Below w0.heap.size w0 w) (hS : ∀ k, S k → k ≠ w.heap.size ∧ k ≠ w.heap.size + 1) (hps : ∀ x, (encs x).size = ps.size)
    (I : Nat → World → Prop) (Ix : Code → Nat → World → Prop) (hI : Stab (fun k => S k ∨ k = w.heap.size ∨ k = w.heap.size + 1) I) (hIx : ∀ c, Stab (fun k => S k ∨ k = w.heap.size ∨ k = w.heap.size + 1) (Ix c)) (h0 : I 0 w) (hN : ∀ W, I N W → xs N = none) (a₁ : α → Act)
    (hassign : ∀ (l : Nat) (x : α) (W : World) (K : Act → World → Prop), K (a₁ x) W →
      assign.wpIn (Fence.wide.inRound l) (n - 1 - 1) P (Exit.then K (fun _ _ _ => False)) { tmps := (ps.zip (encs x)).foldl (fun t (p, v) => t.setIfInBounds p v) a.tmps, defers := [] } W)
    (hbody : ∀ (l i : Nat) (x : α) (W : World), xs i = some x → i < N → I i W → w.heap.size + 2 ≤ W.heap.size → body.wpIn (Fence.wide.inRound l) (n - 1 - 1) P (iterPost (fun k => k = w.heap.size ∨ k = w.heap.size + 1) T I Ix (i + 1) W) (a₁ x) W)
    (hT : ∀ k, T k → k ≠ w.heap.size ∧ k ≠ w.heap.size + 1)
    (hdone : ∀ (m : Nat) (W : World), m ≤ N → xs m = none → I m W → W.heap[w.heap.size]? = some (.deferred (some [])) → Q .normal { a with defers := { target := .collected w.heap.size, args := #[] } :: a.defers } W)
    (hstop : ∀ (c : Code) (i : Nat) (W : World), Ix c i W → W.heap[w.heap.size]? = some (.deferred (some [])) → c.wpIn Fence.wide n P Q { a with defers := { target := .collected w.heap.size, args := #[] } :: a.defers } W) :
    (Code.rangeFunc g ps assign body).wpIn Fence.wide n P Q a w := by
  refine wpIn_rangeFunc ?_
  intro fn hfn
  rw [show Fence.wide.round = none from rfl]
  obtain ⟨rec, hrec⟩ : ∃ rec : LoopState → Option Code → Loop, rec = fun st pe => { state := st, pending := pe, fn, tmps := a.tmps, params := ps, assign, body, defers := w.heap.size } := ⟨_, rfl⟩
  obtain ⟨W1, hW1⟩ : ∃ W1, (w.alloc (.deferred (some []))).alloc (.loop (rec .ready none)) = W1 := ⟨_, rfl⟩
  have hL1 : W1.heap[w.heap.size + 1]? = some (.loop (rec .ready none)) := by
    rw [← hW1]; have := World.alloc_heap_new (w.alloc (.deferred (some []))) (.loop (rec .ready none)); rwa [World.size_alloc] at this
  have hK1 : W1.heap[w.heap.size]? = some (.deferred (some [])) := by
    rw [← hW1]; exact (Below.heap_alloc _ _ _ (by simp)).trans (World.alloc_heap_new w _)
  have haw : Away (fun k => S k ∨ k = w.heap.size ∨ k = w.heap.size + 1) w W1 := by rw [← hW1]; exact ((Away.refl _ w).alloc _).alloc _
  have hI1 : I 0 W1 := hI _ _ _ h0 haw
  have hb1 : Below w0.heap.size w0 W1 := by
    rw [← hW1]; exact hb0.trans ((((Below.refl _ w).alloc (Nat.le_refl _) _).alloc (by simp) _).mono hb0.size)
  refine ⟨w.heap.size + 1, [{ target := .collected w.heap.size, args := #[] }], W1, { target := .fn (.func gf) lb, args := #[.func (.yield (w.heap.size + 1)) #[] #[]] }, W1, gf,
    #[.func (.yield (w.heap.size + 1)) #[] #[]] ++ lb, W1, ?_, ?_, ?_, ?_, fun h => by simp [Fence.wide] at h, ?_⟩
  · rw [← hW1, hrec]; exact run_enterLoop_outer _ _ _ _ _
  · simp only [resolve, hg]
    simp [go_sem]
  · intro f' hf'; trivial
  · simp [invoke, go_sem, eg]
  · have hnd : ∀ {A B : World}, Away S A B → Away (fun k => S k ∨ k = w.heap.size ∨ k = w.heap.size + 1) A B := fun h => h.mono (fun _ => .inl)
    have hrk : ∀ {A B : World} {k : Nat} {o : Obj}, (k = w.heap.size ∨ k = w.heap.size + 1) → A.heap[k]? = some o → Away S A B → B.heap[k]? = some o := fun {A B k o} hk ho h =>
      (h.block k (Array.getElem?_eq_some_iff.1 ho).1 (fun e => by have := hS k e; omega)).trans ho
    refine (hseq (w.heap.size + 1)
      (fun i W => I i W ∧ W.heap[w.heap.size + 1]? = some (.loop (rec .ready none)) ∧ W.heap[w.heap.size]? = some (.deferred (some [])))
      (fun i W => ∃ c, Ix c i W ∧ W.heap[w.heap.size + 1]? = some (.loop (rec .done (some c))) ∧ W.heap[w.heap.size]? = some (.deferred (some [])))
      W1 hb1 (by rw [← hW1]; simp)
      (fun i A B hs h => ⟨hI i A B hs.1 (hnd h), hrk (.inr rfl) hs.2.1 h, hrk (.inl rfl) hs.2.2 h⟩)
      (fun i A B hs h => by
        obtain ⟨c, hc, hl, hk⟩ := hs
        exact ⟨c, hIx c i A B hc (hnd h), hrk (.inr rfl) hl h, hrk (.inl rfl) hk h⟩)
      (fun W h => hN W h.1) ?_ ⟨hI1, hL1, hK1⟩).mono ?_
    · rintro i x W hx hiN ⟨hi, hl, hk⟩
      have hlt : w.heap.size + 1 < W.heap.size := (Array.getElem?_eq_some_iff.1 hl).1
      have hy := run_yield (P := P) (args := encs x) hl (by rw [hrec]; exact hps x)
      rw [hrec] at hy
      refine ⟨fn, _, assign, body, hy, roundIn_of_wpIn hfn (hassign _ x W _ ⟨_, run_beginRound hl (by rw [hrec]), ?_⟩)⟩
      have hl2 : (W.putObj (w.heap.size + 1) (.loop { rec .ready none with state := .busy })).heap[w.heap.size + 1]? = some (.loop { rec .ready none with state := .busy }) := World.putObj_heap_same hlt
      have hk2 : (W.putObj (w.heap.size + 1) (.loop { rec .ready none with state := .busy })).heap[w.heap.size]? = some (.deferred (some [])) := (World.putObj_heap_other (by omega)).trans hk
      have hp : ∀ (A : World) (o : Obj), Away (fun k => S k ∨ k = w.heap.size ∨ k = w.heap.size + 1) A (A.putObj (w.heap.size + 1) o) := fun A o => (Away.refl _ A).putObj (.inl (.inr (.inr rfl))) o
      have hpT : ∀ (A : World) (o : Obj), Keep T A (A.putObj (w.heap.size + 1) o) := fun A o => ⟨by simp, fun k hk ht => World.putObj_heap_other (by have := hT k ht; omega)⟩
      refine wpIn_mono (hbody _ i x _ hx hiN (hI _ _ _ hi (hp _ _)) (by simp; omega)) ?_
      have fin : ∀ (jump : Option Code) (W3 : World), Keep (fun k => k = w.heap.size ∨ k = w.heap.size + 1) (W.putObj (w.heap.size + 1) (.loop { rec .ready none with state := .busy })) W3 →
          (Instr.endRound (w.heap.size + 1) jump).run P W3 = .ok (.bool jump.isNone) (W3.putObj (w.heap.size + 1) (.loop (rec (if jump.isNone then .ready else .done) jump))) ∧
          (W3.putObj (w.heap.size + 1) (.loop (rec (if jump.isNone then .ready else .done) jump))).heap[w.heap.size + 1]? = some (.loop (rec (if jump.isNone then .ready else .done) jump)) ∧
          (W3.putObj (w.heap.size + 1) (.loop (rec (if jump.isNone then .ready else .done) jump))).heap[w.heap.size]? = some (.deferred (some [])) := fun jump W3 hk3 => by
        have hl3 := (hk3.block _ (by simpa using hlt) (.inr rfl)).trans hl2
        have hd3 := (hk3.block _ (by simp; omega) (.inl rfl)).trans hk2
        have := run_endRound (P := P) jump hl3
        rw [hrec] at this ⊢
        exact ⟨this, World.putObj_heap_same (Array.getElem?_eq_some_iff.1 hl3).1, (World.putObj_heap_other (by omega)).trans hd3⟩
      rintro e a3 W3 hpst
      cases e with
      | normal =>
        obtain ⟨hk3, hkp3, hi3⟩ := hpst
        obtain ⟨hr, hl4, hk4⟩ := fin none W3 hk3
        exact ⟨_, _, hr, .inl ⟨rfl, ⟨hI _ _ _ hi3 (hp _ _), hl4, hk4⟩, ((hpT _ _).trans hkp3).trans (hpT _ _)⟩⟩
      | ret =>
        obtain ⟨hk3, hi3⟩ := hpst
        obtain ⟨hr, hl4, hk4⟩ := fin (some .ret) W3 hk3
        exact ⟨_, _, hr, .inr ⟨rfl, _, hIx _ _ _ _ hi3 (hp _ _), hl4, hk4⟩⟩
      | exit id =>
        obtain ⟨hk3, hi3⟩ := hpst
        obtain ⟨hr, hl4, hk4⟩ := fin (some (.exit id)) W3 hk3
        exact ⟨_, _, hr, .inr ⟨rfl, _, hIx _ _ _ _ hi3 (hp _ _), hl4, hk4⟩⟩
      | goto t =>
        obtain ⟨hk3, hi3⟩ := hpst
        obtain ⟨hr, hl4, hk4⟩ := fin (some (.goto t)) W3 hk3
        exact ⟨_, _, hr, .inr ⟨rfl, _, hIx _ _ _ _ hi3 (hp _ _), hl4, hk4⟩⟩
      | panic chain => exact hpst.elim
      | outgrown => exact hpst.elim
    · have he : ∀ {A : World} {st : LoopState} {pe : Option Code}, st ≠ .busy → A.heap[w.heap.size + 1]? = some (.loop (rec st pe)) → A.heap[w.heap.size]? = some (.deferred (some [])) →
          (Instr.endLoop (w.heap.size + 1)).run P A = .ok pe (A.putObj (w.heap.size + 1) (.loop (rec .exhausted pe))) ∧ (A.putObj (w.heap.size + 1) (.loop (rec .exhausted pe))).heap[w.heap.size]? = some (.deferred (some [])) := fun {A st pe} hst hl hk => by
        have := run_endLoop (P := P) hl (by rw [hrec]; exact hst)
        rw [hrec] at this ⊢
        exact ⟨this, (World.putObj_heap_other (by omega)).trans hk⟩
      have hp : ∀ (A : World) (o : Obj), Away (fun k => S k ∨ k = w.heap.size ∨ k = w.heap.size + 1) A (A.putObj (w.heap.size + 1) o) := fun A o => (Away.refl _ A).putObj (.inl (.inr (.inr rfl))) o
      rintro e W' ⟨⟨v, rfl⟩, ⟨m, hm, hx, hi, hl, hk⟩ | ⟨i, c, hc, hl, hk⟩⟩
      · obtain ⟨h1, h2⟩ := he (by simp) hl hk
        exact ⟨_, _, h1, hdone m _ hm hx (hI _ _ _ hi (hp _ _)) h2⟩
      · obtain ⟨h1, h2⟩ := he (by simp) hl hk
        exact ⟨_, _, h1, hstop c i _ (hIx _ _ _ _ hc (hp _ _)) h2⟩
end Go.Proofs.Ytflchcdmgceecaa.H
