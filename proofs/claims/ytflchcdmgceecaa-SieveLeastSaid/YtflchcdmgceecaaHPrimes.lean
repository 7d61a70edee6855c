/- sieve.Primes, by walking its text. -/
import Derived.Test.YtflchcdmgceecaaHSieve
import Derived.Maps.OwnIn
import Derived.Shelf.Abstract
import Derived.Shelf.RegionOpen
set_option linter.unusedVariables false
set_option linter.unusedSimpArgs false
namespace Go.Proofs.Ytflchcdmgceecaa.H
open Go.RowKit Go.Proofs.YtflchcdmgceecaaW.PrintWords Go.Proofs.YtflchcdmgceecaaW.PrintLast Go.Proofs.YtflchcdmgceecaaW.PrintMore Go.Proofs.Ytflchcdmgceecaa.Q
attribute [local go_sem] Oper.semAt_some

theorem owns_away {A B : World} {S : Nat → Prop} {base e n : Nat} {v : Value} {xs : List Value} (h : A.ownsRow base e 1 v n xs) (ha : Away S A B) (hs : ∀ k, S k → k < base) : B.ownsRow base e 1 v n xs := by
  refine ⟨h.1, ?_⟩
  rcases h.2 with h0 | ⟨g, c, cur, he, hb, hg, hr⟩
  · exact .inl h0
  · exact .inr ⟨g, c, cur, he, hb, ha.blk hg (fun k => by have := hs g k; omega), hr⟩
theorem owns_ge {A : World} {base e n : Nat} {v : Value} {xs : List Value} (h : A.ownsRow base e 1 v n xs) (b : Nat) (hb : b < base) : some b ≠ v.ownBlock := by
  rcases h.2 with ⟨h0, _⟩ | ⟨g, c, cur, he, hb2, hg, hr⟩
  · rw [h0]; simp [Value.ownBlock]
  · rw [he]; simp [Value.ownBlock]; omega

theorem owns_slice {A : World} {base e n : Nat} {v : Value} {xs : List Value} (h : A.ownsRow base e 1 v n xs) : ∃ a m c, v = .slice a m c := by
  rcases h.2 with ⟨h0, _⟩ | ⟨g, c, cur, he, _⟩
  · exact ⟨_, _, _, h0⟩
  · exact ⟨_, _, _, he⟩
theorem owns_lower {A : World} {base base' e n : Nat} {v : Value} {xs : List Value} (h : A.ownsRow base e 1 v n xs) (hb : base' ≤ base) : A.ownsRow base' e 1 v n xs := by
  refine ⟨h.1, ?_⟩
  rcases h.2 with h0 | ⟨g, c, cur, he, hb2, hg, hr⟩
  · exact .inl h0
  · exact .inr ⟨g, c, cur, he, Nat.le_trans hb hb2, hg, hr⟩
theorem below_putObjP {b r : Nat} {w W : World} (h : Below b w W) (hr : b ≤ r) (o : Obj) : Below b w (W.putObj r o) := by
  exact h.trans ⟨rfl, rfl, rfl, by simp [World.putObj], fun k hk => by simp [World.putObj, Array.getElem?_setIfInBounds, show r ≠ k by omega]⟩
structure PI (w : World) (ps : List Int) (i : Nat) (W : World) : Prop where
  l : ∃ v, W.heap[w.heap.size]? = some (.cells #[v] 59 (0, 0)) ∧ W.ownsRow (w.heap.size + 5) 3 1 v i (encs (Value.int .i64) (ps.take i))
  below : Below w.heap.size w W
  size : w.heap.size + 2 ≤ W.heap.size
  le : i ≤ ps.length
theorem PI.away {w : World} {ps : List Int} {i : Nat} {A B : World} {S : Nat → Prop} (k : PI w ps i A) (ha : Away S A B) (hs : ∀ k, S k → w.heap.size < k ∧ k < w.heap.size + 5) : PI w ps i B := by
  obtain ⟨v, h1, h2⟩ := k.l
  exact ⟨⟨v, ha.blk h1 (fun h => by have := hs _ h; omega), owns_away h2 ha (fun j h => by have := hs _ h; omega)⟩, Away.below k.below ha (fun j h => by have := hs _ h; omega) (by have := k.size; omega), Nat.le_trans k.size ha.size, k.le⟩

def capOf (a : Int) : Nat := if 10000 ≤ a then 10000 else a.toNat
def primesL (a : Int) : List Int := (primesTo (capOf a + 1)).map Int.ofNat
theorem primesTo_len (n : Nat) : (primesTo n).length ≤ n := by
  have := List.length_filter_le isP (List.range n)
  rw [List.length_range] at this
  exact this
set_option maxRecDepth 100000 in
set_option maxHeartbeats 2000000 in
theorem primes_in (n : Nat) (hn : 4 ≤ n) (a : Int) (w : World) :
    CallsIn Fence.wide n Try.prog 38 #[.int .i64 a] w fun e w' => ∃ v, e = .returned v ∧ Kd.R (Kd.int .i64) 3 w' w.heap.size (fun _ => True) v (primesL a) ∧ Below w.heap.size w w' := by
  refine callsIn_of_wp_marks Try.func38 rfl trivial ?_ rfl
  simp only [Try.ntmps38, List.size_toArray, List.length_cons, List.length_nil, Nat.reduceAdd, Nat.reduceSub, Array.replicate_succ, Array.replicate_zero, List.push_toArray, List.append_toArray, List.nil_append, List.cons_append]
  gi_wp2_with fail
  refine ⟨trivial, fun _ => by omega, ?_⟩
  refine (each_in (n - 1) _ _).mono ?_
  rintro e w' ⟨rfl, rfl⟩
  obtain ⟨W0, hW0⟩ : ∃ W0, W0 = ((w.alloc (.cells #[.slice none 0 0] 59)).alloc (.cells #[.int .i64 a] 3)) := ⟨_, rfl⟩
  have hbw : Below w.heap.size w W0 := by
    rw [hW0]; exact ((Below.refl _ w).alloc (Nat.le_refl _) _).alloc (by simp) _
  have hz0 : W0.heap.size = w.heap.size + 2 := by rw [hW0]; simp
  have hcl : W0.heap[w.heap.size]? = some (.cells #[.slice none 0 0] 59 (0, 0)) := by
    rw [hW0]; simp only [heap_at, World.size_alloc]; rw [if_neg (by omega), if_pos (by trivial)]
  have hcn : W0.heap[w.heap.size + 1]? = some (.cells #[.int .i64 a] 3 (0, 0)) := by
    rw [hW0]; simp only [heap_at, World.size_alloc]; rw [if_pos (by trivial)]
  have h0 : PI w (primesL a) 0 W0 := ⟨⟨_, hcl, by rw [List.take_zero]; exact World.ownsRow_nil _ _ _ _⟩, hbw, by omega, Nat.zero_le _⟩
  have HZ := Lib.hid hz0
  have H0 := Lib.hid h0
  have HCN := Lib.hid hcn
  have HBW := Lib.hid hbw
  rw [show (w.alloc (.cells #[.slice none 0 0] 59)).heap.size = w.heap.size + 1 by simp]
  rw [← hW0]
  clear hW0 h0 hz0 hcl hcn hbw
  gi_wp2
  refine wpIn_iterZ (gf := 86) (lb := #[.pointer (some ⟨w.heap.size + 1, 0, none⟩)]) rfl (enters_of Try.func86 (by kernel_rfl) rfl)
    (each1_iter (n - 1) (by omega) (w.heap.size + 1) a W0 (capOf a) rfl HCN.out (W0.heap.size + 2)) (Below.refl _ _) (fun k hk => by have := HZ.out; omega) (fun _ => rfl)
    (PI w (primesL a)) (fun c i W => False) (fun i A B h ha => h.away ha (fun k hk => by have := HZ.out; omega)) (fun c i A B h ha => h.elim) H0.out
    (fun W h => List.getElem?_eq_none (Nat.le_refl _)) ?a1 ?assign ?body (fun k hk => by have := HZ.out; omega) ?done ?stop
  case a1 => exact fun x => { tmps := #[.int .i64 a, undef, .slice none 0 0, .pointer (some ⟨w.heap.size, 0, none⟩), .int .i64 (x : Int), .int .i64 a, .func (.func 86) #[] #[.pointer (some ⟨w.heap.size + 1, 0, none⟩)], .int .i64 (x : Int), undef, undef, undef, undef, undef], defers := [] }
  case assign =>
    intro l x W K hK
    simp only [encP, List.zip_toArray, List.zip_cons_cons, List.zip_nil_right, List.foldl_toArray, List.foldl_toArray', List.foldl_cons, List.foldl_nil, List.setIfInBounds_toArray, List.set_cons_succ, List.set_cons_zero]
    gi_wp2
    exact hK
  case body =>
    rintro lp i x W hx hi hI hz
    obtain ⟨v, hl, hown⟩ := hI.l
    have hx' : x ≤ 10000 := by
      have h1 := List.mem_of_getElem? hx
      have h2 := (List.mem_filter.1 h1).1
      rw [List.mem_range] at h2
      have : capOf a ≤ 10000 := by unfold capOf; split <;> omega
      omega
    have hlen : i ≤ 10001 := by
      have h1 := primesTo_len (capOf a + 1)
      have : capOf a ≤ 10000 := by unfold capOf; split <;> omega
      omega
    have hnext : encs (Value.int .i64) ((primesL a).take (i + 1)) = encs (Value.int .i64) ((primesL a).take i) ++ [.int .i64 (x : Int)] := by
      have h1 : i < (primesL a).length := by simpa [primesL] using hi
      have h2 : (primesL a)[i] = (x : Int) := by
        obtain ⟨h3, h4⟩ := List.getElem?_eq_some_iff.1 hx
        simp [primesL, h4]
      rw [List.take_succ_eq_append_getElem h1, h2]
      simp [encs]
    have hcl : W.cell? ⟨w.heap.size, 0, none⟩ = some v := blk_cell hl 0
    have hfl : W.frozen? ⟨w.heap.size, 0, none⟩ = false := blk_frozen hl 0
    have HLe0 : i < (primesL a).length := by simpa [primesL] using hi
    have HLe : Hid (i + 1 ≤ (primesL a).length) := HLe0
    clear HLe0
    have HI := Lib.hid hI
    have HZW := Lib.hid hz
    have HN := Lib.hid hnext
    have HOw := Lib.hid hown
    have HL := Lib.hid hl
    have HLN := Lib.hid hlen
    clear hI hz hnext hown hx hi hl hlen
    obtain ⟨ii, hii⟩ := Option.isSome_iff_exists.1 (show (Try.prog.info? 3).isSome = true by kernel_rfl)
    have h3 : (Try.prog.info? 3).map (fun i => (i.zero, i.size, i.bytes)) = some (some (.int .i64 0), 1, 8) := by kernel_rfl
    rw [hii] at h3
    simp only [Option.map_some, Option.some.injEq, Prod.mk.injEq] at h3
    have HII := Lib.hid hii
    have H31 := Lib.hid h3.1
    have H32 := Lib.hid h3.2.1
    have H33 := Lib.hid h3.2.2
    clear h3 hii
    have HOA : Hid ((W.alloc (.cells #[.int .i64 (x : Int)] 3)).ownsRow (w.heap.size + 5) 3 1 v i (encs (Value.int .i64) ((primesL a).take i))) := owns_away HOw.out ((Away.refl (fun _ => False) W).alloc _) (fun _ h => h.elim)
    have HNW : Hid (∀ j u, ([Value.int .i64 (x : Int)])[j]? = some u → (W.alloc (.cells #[.int .i64 (x : Int)] 3)).cell? (Addr.add ⟨W.heap.size, 0, none⟩ j) = some u) := by
      intro j u hu
      match j, hu with
      | 0, hu =>
        cases hu
        exact blk_cell (World.alloc_heap_new W _) 0
    have HB3 : Hid (w.heap.size + 5 ≤ (W.alloc (.cells #[.int .i64 (x : Int)] 3)).heap.size) := by
      show _ ≤ _
      have := HZW.out; have := HZ.out
      simp; omega
    have HWL : Hid (w.heap.size < (W.alloc (.cells #[.int .i64 (x : Int)] 3)).heap.size) := by
      show _ < _
      have := HB3.out
      omega
    have HAL : Hid (Away (fun _ => False) W (W.alloc (.cells #[.int .i64 (x : Int)] 3))) := (Away.refl _ W).alloc _
    gi_wp2_with (refine wpListIn_append_own_at (w := W.alloc (.cells #[.int .i64 (x : Int)] 3)) rfl (.tmp 8) (.tmp 10) 59 rfl (w.heap.size + 5) 3 ii (.int .i64 0) 1 8 Try.underlying59 HII.out H31.out H32.out H33.out rfl (by decide) v i (encs (Value.int .i64) ((primesL a).take i)) rfl HOA.out ⟨W.heap.size, 0, none⟩ 1 1 [.int .i64 (x : Int)] rfl rfl HNW.out (by simp [Value.oneCell']) (by have := HLN.out; show _ ≤ _; unfold maxLen; omega) (by have := HLN.out; omega) HB3.out ?_; intro v' w9 hown9 hg9 hnil9 hat9; (obtain ⟨A9, m9, c9, rfl⟩ := owns_slice hown9); (have hl9 : w9.heap[w.heap.size]? = some (.cells #[v] 59 (0, 0)) := (hg9.block _ HWL.out (owns_ge HOA.out _ (by omega))).trans (HAL.out.blk HL.out (fun h => h))); (have hcl9 : w9.cell? ⟨w.heap.size, 0, none⟩ = some v := blk_cell hl9 0); (have hfl9 : w9.frozen? ⟨w.heap.size, 0, none⟩ = false := blk_frozen hl9 0); (have HOW9 := Lib.hid hown9); (have HG9 := Lib.hid hg9); (have HL9 := Lib.hid hl9); clear hown9 hg9 hnil9 hat9 hl9)
    have hz0 := HZ.out
    have hsz := HB3.out
    have hsz9 := HG9.out.size
    have hne : ∀ k, k ≠ w.heap.size → (w9.setCell ⟨w.heap.size, 0, none⟩ (.slice A9 m9 c9)).heap[k]? = w9.heap[k]? := fun k hk => Below.heap_setCell _ _ _ _ hk
    have hk9 : ∀ k, k < W.heap.size → k < w.heap.size + 5 → k ≠ w.heap.size → (w9.setCell ⟨w.heap.size, 0, none⟩ (.slice A9 m9 c9)).heap[k]? = W.heap[k]? := fun k hk h5 hn0 =>
      (hne k hn0).trans ((HG9.out.block k (by simp; omega) (owns_ge HOA.out k h5)).trans (Below.heap_alloc _ _ _ hk))
    have hs9 : W.heap.size ≤ (w9.setCell ⟨w.heap.size, 0, none⟩ (.slice A9 m9 c9)).heap.size := by
      simp [World.setCell] at hsz9 ⊢; omega
    have hIs := HI.out.size
    refine ⟨⟨hs9, fun k hk ht => hk9 k hk (by omega) (by omega)⟩, ⟨hs9, fun k hk ht => hk9 k hk (by omega) (by omega)⟩, ?_⟩
    refine ⟨⟨.slice A9 m9 c9, blk_set HL9.out 0 _, ?_⟩, ?_, by omega, ?_⟩
    · rw [HN.out]
      refine owns_away HOW9.out (S := fun k => k = w.heap.size) ((Away.refl (fun k => k = w.heap.size) w9).setCell (p := ⟨w.heap.size, 0, none⟩) (Or.inl rfl) _) (fun k hk => by omega)
    · have hb9 : Below w.heap.size w w9 := by
        have h1 : Below w.heap.size w (W.alloc (.cells #[.int .i64 (x : Int)] 3)) := HI.out.below.alloc (by omega) _
        exact ⟨HG9.out.os.trans h1.os, HG9.out.tape.trans h1.tape, HG9.out.output.trans h1.output, Nat.le_trans h1.size hsz9, fun k hk => (HG9.out.block k (by simp; omega) (owns_ge HOA.out k (by omega))).trans (h1.block k hk)⟩
      exact hb9.setCell (by show w.heap.size ≤ w.heap.size; exact Nat.le_refl _) _
    · exact HLe.out
  case done =>
    rintro m W hm hx hI hK
    obtain ⟨v, hl, hown⟩ := hI.l
    obtain ⟨A, c1, c2, rfl⟩ := owns_slice hown
    have hcl : W.cell? ⟨w.heap.size, 0, none⟩ = some (.slice A c1 c2) := blk_cell hl 0
    have HI := Lib.hid hI
    have HKD := Lib.hid hK
    have HX := Lib.hid hx
    have HOw := Lib.hid hown
    clear hI hK hx hown hl
    gi_wp2
    have hz0 := HZ.out
    have hz1 := HI.out.size
    refine ⟨by simp, .inl ⟨_, _, rfl, run_takeDeferred (ds := []) HKD.out, ?_⟩⟩
    have hp : ∀ k, k ≠ W0.heap.size → (W.putObj W0.heap.size (.deferred none)).heap[k]? = W.heap[k]? := fun k hk => by
      simp [World.putObj, Array.getElem?_setIfInBounds, Ne.symm hk]
    have hmN : m = (primesL a).length := by
      have h1 := List.getElem?_eq_none_iff.1 HX.out
      have h2 := HI.out.le
      simp only [primesL, List.length_map] at h2 ⊢
      omega
    refine ⟨.slice A c1 c2, by simp [results, go_sem], ?_⟩
    refine ⟨_, rfl, ?_, ?_⟩
    · have h1 : (W.putObj W0.heap.size (.deferred none)).ownsRow (w.heap.size + 5) 3 1 (.slice A c1 c2) m (encs (Value.int .i64) ((primesL a).take m)) :=
        owns_away HOw.out (S := fun k => k = W0.heap.size) ((Away.refl (fun k => k = W0.heap.size) W).putObj (Or.inl rfl) _) (fun k hk => by omega)
      rw [hmN, List.take_length] at h1
      exact Kd.R_of_own (owns_lower h1 (by omega)) (fun _ _ => trivial)
    · exact below_putObjP HI.out.below (by omega) _
  case stop =>
    rintro cc i W h hK
    exact h.elim

def sieve_Primes.f (a0 : Int) : Option (List Int) := some (primesL a0)
theorem sieve_Primes.calls (a0 : Int) (r : List Int) (w : World) (h : sieve_Primes.f a0 = some r) :
    Calls Try.prog 38 #[.int .i64 a0] w fun e w' => ∃ v0_ : Value, e = .returned v0_ ∧ Kd.R (Kd.int .i64) 3 w' w.heap.size (fun _ => True) v0_ r ∧ Below w.heap.size w w' := by
  cases h
  exact (callsIn_wide (n := 4)).1 (primes_in 4 (by omega) a0 w)
end Go.Proofs.Ytflchcdmgceecaa.H
