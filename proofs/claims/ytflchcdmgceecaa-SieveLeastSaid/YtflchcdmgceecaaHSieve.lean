/- The sieve's iterator, by walking its text. -/
import Derived.Test.YtflchcdmgceecaaQPrime
import Derived.Test.YtflchcdmgceecaaHBase
import Derived.Test.YtflchcdmgceecaaHRangeZ
import Derived.OwnWalkIn
import Derived.TacticsInMore
import Derived.LoopNIn
import Derived.LoopIn
import Derived.WalkMore
set_option linter.unusedVariables false
set_option linter.unusedSimpArgs false
namespace Go.Proofs.Ytflchcdmgceecaa.H
open Go.RowKit Go.Proofs.YtflchcdmgceecaaW.PrintWords Go.Proofs.YtflchcdmgceecaaW.PrintLast Go.Proofs.YtflchcdmgceecaaW.PrintMore Go.Proofs.Ytflchcdmgceecaa.Q
theorem min2_mn (k k' : IntKind) (x y : Int) : Builtin.min2 (.int k x) (.int k' y) = pure (.int k (mn x y)) := by rw [min2_int]; rfl
attribute [local go_sem] Oper.semAt_some min2_mn min_two

theorem each_in (n : Nat) (a : Int) (w : World) :
    CallsIn Fence.wide n Try.prog 73 #[.int .i64 a] w fun e w' => e = .returned (.func (.func 86) #[] #[.pointer (some ⟨w.heap.size, 0, none⟩)]) ∧ w' = w.alloc (.cells #[.int .i64 a] 3) := by
  refine callsIn_of_wp Try.func73 rfl trivial ?_ rfl
  simp only [Try.ntmps73, List.size_toArray, List.length_cons, List.length_nil, Nat.reduceAdd, Nat.reduceSub, Array.replicate_succ, Array.replicate_zero, List.push_toArray, List.append_toArray, List.nil_append, List.cons_append]
  gi_wp2
  go_ret
  exact ⟨rfl, rfl⟩

/-- A row of struck numbers. -/
noncomputable def rowV (Q : Nat → Prop) : Array Value := ((List.range 10001).map fun m => Value.int .u8 (@ite Int (Q m) (Classical.propDecidable _) 1 0)).toArray
theorem rowV_at (Q : Nat → Prop) (m : Nat) (h : m ≤ 10000) : (rowV Q)[m]? = some (.int .u8 (@ite Int (Q m) (Classical.propDecidable _) 1 0)) := by
  have : m < 10001 := by omega
  simp only [rowV, List.getElem?_toArray, List.getElem?_map, List.getElem?_range this, Option.map_some]
theorem rowV_size (Q : Nat → Prop) : (rowV Q).size = 10001 := by simp [rowV]
theorem rowV_set (Q Q' : Nat → Prop) (k : Nat) (h : ∀ m, Q' m ↔ (m = k ∨ Q m)) : (rowV Q).setIfInBounds k (.int .u8 1) = rowV Q' := by
  apply Array.ext_getElem?
  intro i
  by_cases hi : i ≤ 10000
  · rw [rowV_at Q' i hi, Array.getElem?_setIfInBounds, rowV_size]
    by_cases hk : k = i
    · subst hk
      rw [if_pos rfl, if_pos (by omega), if_pos ((h k).2 (.inl rfl))]
    · rw [if_neg hk, rowV_at Q i hi]
      by_cases hq : Q i
      · rw [if_pos hq, if_pos ((h i).2 (.inr hq))]
      · rw [if_neg hq, if_neg (fun x => ((h i).1 x).elim (fun e => hk e.symm) hq)]
  · rw [Array.getElem?_eq_none (by rw [Array.size_setIfInBounds, rowV_size]; omega), Array.getElem?_eq_none (by rw [rowV_size]; omega)]
theorem zeros_row (cs : Array Value) (hs : cs.size = 10001) (hz : ∀ i, i < 10001 → cs[i]? = some (.int .u8 0)) (Q : Nat → Prop) (h : ∀ m, m ≤ 10000 → ¬ Q m) : cs = rowV Q := by
  apply Array.ext_getElem?
  intro i
  by_cases hi : i ≤ 10000
  · rw [rowV_at Q i hi, hz i (by omega), if_neg (h i hi)]
  · rw [Array.getElem?_eq_none (by omega), Array.getElem?_eq_none (by rw [rowV_size]; omega)]
theorem rowV_same (Q Q' : Nat → Prop) (h : ∀ m, Q' m ↔ Q m) : rowV Q' = rowV Q := by
  have : Q' = Q := funext fun m => propext (h m)
  rw [this]

theorem zs39 : [Value.int .u8 0, Value.int .u8 0, Value.int .u8 0, Value.int .u8 0, Value.int .u8 0, Value.int .u8 0, Value.int .u8 0, Value.int .u8 0, Value.int .u8 0, Value.int .u8 0, Value.int .u8 0, Value.int .u8 0, Value.int .u8 0, Value.int .u8 0, Value.int .u8 0, Value.int .u8 0, Value.int .u8 0, Value.int .u8 0, Value.int .u8 0, Value.int .u8 0, Value.int .u8 0, Value.int .u8 0, Value.int .u8 0, Value.int .u8 0, Value.int .u8 0, Value.int .u8 0, Value.int .u8 0, Value.int .u8 0, Value.int .u8 0, Value.int .u8 0, Value.int .u8 0, Value.int .u8 0, Value.int .u8 0, Value.int .u8 0, Value.int .u8 0, Value.int .u8 0, Value.int .u8 0, Value.int .u8 0, Value.int .u8 0] = List.replicate 39 (Value.int .u8 0) := rfl
theorem zs40 : Value.int .u8 0 :: List.replicate 39 (Value.int .u8 0) = List.replicate 40 (Value.int .u8 0) := rfl
theorem zeros_eq : Try.zeroCells118 = (List.replicate 10001 (Value.int .u8 0)).toArray := by
  unfold Try.zeroCells118
  simp only [zs40, zs39, List.append_eq, List.replicate_append_replicate, Nat.reduceAdd]
theorem zeros_size : Try.zeroCells118.size = 10001 := by rw [zeros_eq, List.size_toArray, List.length_replicate]
theorem zeros_at (i : Nat) (h : i < 10001) : Try.zeroCells118[i]? = some (.int .u8 0) := by rw [zeros_eq, List.getElem?_toArray, List.getElem?_replicate, if_pos h]
def encP (p : Nat) : Array Value := #[.int .i64 (p : Int)]
set_option maxHeartbeats 2000000 in
theorem each1_iter (n : Nat) (hn : 1 ≤ n) (Bn : Nat) (a : Int) (w : World) (m : Nat) (hm : m = (if 10000 ≤ a then 10000 else a.toNat))
    (hB : w.heap[Bn]? = some (.cells #[.int .i64 a] 3 (0, 0))) (Z : Nat) :
    IterZ n Try.prog 86 #[.pointer (some ⟨Bn, 0, none⟩)] encP (fun k => k = Bn ∨ k = Z) (fun k => k = Bn ∨ k = Z) (fun i => (primesTo (m + 1))[i]?) (primesTo (m + 1)).length Z w := by
  intro lp J Jx W hW hZ hJ hJx hN hY h0
  have hBlt : Bn < w.heap.size := (Array.getElem?_eq_some_iff.1 hB).1
  have hBW : W.heap[Bn]? = some (.cells #[.int .i64 a] 3 (0, 0)) := (hW.block Bn hBlt).trans hB
  have hBZ : Bn < Z := by have := hW.size; omega
  have hc0 : W.cell? ⟨Bn, 0, none⟩ = some (.int .i64 a) := blk_cell hBW 0
  have hf0 : W.frozen? ⟨Bn, 0, none⟩ = false := blk_frozen hBW 0
  refine callsIn_of_wp Try.func86 rfl trivial ?_ rfl
  simp only [Try.ntmps86, List.size_toArray, List.length_cons, List.length_nil, Nat.reduceAdd, Nat.reduceSub, Array.replicate_succ, Array.replicate_zero, List.push_toArray, List.append_toArray, List.nil_append, List.cons_append]
  gi_wp2
  refine (wpIn_wide (n := n)).2 (wp_scope_straight ((wpIn_wide (n := n)).1 ?_))
  gi_wp2
  obtain ⟨N', hN'⟩ : ∃ N', N' = mn a 10000 := ⟨_, rfl⟩
  have hle : N' ≤ 10000 := by rw [hN']; unfold mn; split <;> omega
  have hNm : ∀ p : Nat, 2 ≤ p → ((p : Int) ≤ N' ↔ p ≤ m) := fun p hp => by
    rw [hN', hm]; unfold mn; split <;> split <;> omega
  have hm1 : m ≤ 10000 := by rw [hm]; split <;> omega
  obtain ⟨W2, hW2⟩ : ∃ W2, W2 = (W.setCell ⟨Bn, 0, none⟩ (.int .i64 (mn a 10000))).alloc (.cells Try.zeroCells118 118) := ⟨_, rfl⟩
  have hBn2 : W2.heap[Bn]? = some (.cells #[.int .i64 N'] 3 (0, 0)) := by
    rw [hW2, hN']
    refine (Below.heap_alloc _ _ _ (by simpa [World.setCell] using Nat.lt_of_lt_of_le hBlt hW.size)).trans ?_
    exact blk_set hBW 0 _
  have hZ2 : W2.heap[Z]? = some (.cells (rowV (St m 2)) 118 (0, 0)) := by
    rw [hW2, ← zeros_row Try.zeroCells118 ?zs ?zz (St m 2) (fun x _ ⟨q, h1, h2, _⟩ => ?zq)]
    · have := World.alloc_heap_new (W.setCell ⟨Bn, 0, none⟩ (.int .i64 (mn a 10000))) (.cells Try.zeroCells118 118)
      rw [show (W.setCell ⟨Bn, 0, none⟩ (.int .i64 (mn a 10000))).heap.size = Z by simpa [World.setCell] using hZ] at this
      exact this
    case zs => exact zeros_size
    case zz => exact zeros_at
    case zq =>
      have := ((isP_iff q).1 h1).1
      omega
  have hJ2 : J 0 W2 := by
    refine hJ _ _ _ h0 ?_
    rw [hW2]
    exact ((Away.refl _ W).setCell (p := ⟨Bn, 0, none⟩) (.inl (.inl rfl)) _).alloc _
  rw [← hW2]
  clear hW2
  have HNM := Lib.hid hNm
  have HM := Lib.hid hm
  have HNp := Lib.hid hN'
  clear hNm hm hN'
  refine wpIn_label ?_
  gi_wp2
  gi_loopw [4] (fun i wr => ∃ p : Nat, 2 ≤ p ∧ (p ≤ m + 1 ∨ p = 2) ∧ i = .int .i64 p ∧ J (primesTo p).length wr ∧ wr.heap[Bn]? = some (.cells #[.int .i64 N'] 3 (0, 0)) ∧ wr.heap[Z]? = some (.cells (rowV (St m p)) 118 (0, 0)))
    (fun i _ => m + 2 - (intOf i).toNat)
  case atStart => exact ⟨2, by omega, .inr rfl, rfl, hJ2, hBn2, hZ2⟩
  case round =>
    obtain ⟨p, hp2, hpm, rfl, hJp, hbn, hbz⟩ := hrel
    have hcn : wr.cell? ⟨Bn, 0, none⟩ = some (.int .i64 N') := blk_cell hbn 0
    by_cases hlt : p ≤ m
    · have hd : decide ((p : Int) ≤ N') = true := decide_eq_true ((HNM.out p hp2).2 hlt)
      have hp4 : p ≤ 10000 := by omega
      cases hpr : isP p with
      | false =>
        have hcz : wr.cell? ⟨Z, p, none⟩ = some (.int .u8 1) := by
          rw [blk_cell hbz p, rowV_at _ _ hp4, if_pos ((st_self hp2 hlt).2 hpr)]
        gi_wp2
        refine ⟨⟨p + 1, by omega, .inl (by omega), by go_num, ?_, hbn, ?_⟩, by simp [intOf]; omega⟩
        · rw [primesTo_succ, hpr]
          simpa using hJp
        · rw [rowV_same _ _ (fun x => st_skip hpr x)]
          exact hbz
      | true =>
        have hcz : wr.cell? ⟨Z, p, none⟩ = some (.int .u8 0) := by
          rw [blk_cell hbz p, rowV_at _ _ hp4, if_neg (fun x => by rw [(st_self hp2 hlt).1 x] at hpr; cases hpr)]
        have hpp : IntKind.i64.wrap ((p : Int) * (p : Int)) = (p : Int) * (p : Int) := by
          have h1 : (p : Int) * (p : Int) ≤ 100000000 := by
            have h := Int.ofNat_le.2 (Nat.mul_le_mul hp4 hp4)
            rw [Int.natCast_mul] at h
            omega
          have h2 : (0 : Int) ≤ (p : Int) * (p : Int) := Int.mul_nonneg (by omega) (by omega)
          rw [i64_w]
          unfold wrap64
          omega
        gi_wp2
        obtain ⟨pp, hpe⟩ : ∃ pp, pp = p * p := ⟨_, rfl⟩
        have he : (p : Int) * (p : Int) = (pp : Int) := by rw [hpe, Int.natCast_mul]
        have hpm0 : pp % p = 0 := by rw [hpe]; exact Nat.mul_mod_right p p
        have hpp0 : p ≤ pp := by rw [hpe]; exact Nat.le_mul_of_pos_left p (by omega)
        simp only [he]
        have HPE := Lib.hid hpe
        clear hpp hpe he
        gi_loopw [5] (fun i wq => ∃ k : Nat, pp ≤ k ∧ k % p = 0 ∧ i = .int .i64 k ∧ J (primesTo p).length wq ∧ wq.heap[Bn]? = some (.cells #[.int .i64 N'] 3 (0, 0)) ∧ wq.heap[Z]? = some (.cells (rowV (StK m p k)) 118 (0, 0)))
          (fun i _ => m + p + 1 - (intOf i).toNat)
        case atStart => exact ⟨pp, Nat.le_refl _, hpm0, rfl, hJp, hbn, by rw [rowV_same (St m p) (StK m p pp) (fun x => by rw [HPE.out]; exact stK_start m p x)]; exact hbz⟩
        case round =>
          obtain ⟨k, hkp, hkm, rfl, hJk, hkn, hkz⟩ := hrel
          have hck : wr.cell? ⟨Bn, 0, none⟩ = some (.int .i64 N') := blk_cell hkn 0
          by_cases hkl : k ≤ m
          · have hkd : decide ((k : Int) ≤ N') = true := decide_eq_true ((HNM.out k (by omega)).2 hkl)
            have hk4 : k ≤ 10000 := by omega
            have hfz : wr.frozen? ⟨Z, k, none⟩ = false := blk_frozen hkz k
            obtain ⟨v, hcv⟩ : ∃ v, wr.cell? ⟨Z, k, none⟩ = some (.int .u8 v) := ⟨_, by rw [blk_cell hkz k, rowV_at _ _ hk4]⟩
            gi_wp2
            refine ⟨⟨k + p, by omega, by rw [Nat.add_mod_right]; exact hkm, by go_num, hJ _ _ _ hJk ((Away.refl _ wr).setCell (p := ⟨Z, k, none⟩) (.inl (.inr rfl)) _), (Below.heap_setCell _ _ _ _ (by show Bn ≠ Z; omega)).trans hkn, ?_⟩, by simp [intOf]; omega⟩
            have h1 := blk_set hkz k (.int .u8 1)
            rw [rowV_set (StK m p k) (StK m p (k + p)) k (stK_step (by omega) hkl (by rw [← HPE.out]; exact hkp) hkm)] at h1
            exact h1
          · have hkd : decide ((k : Int) ≤ N') = false := decide_eq_false (fun x => hkl ((HNM.out k (by omega)).1 x))
            have hx : (primesTo (m + 1))[(primesTo p).length]? = some p := primesTo_at hpr hlt
            have hq := hY _ p wr hx (primesTo_lt hpr hlt) hJk
            rw [show encP p = #[.int .i64 (p : Int)] from rfl] at hq
            have HX := Lib.hid hq
            clear hq
            have hend : rowV (StK m p k) = rowV (St m (p + 1)) := rowV_same _ _ (fun x => stK_end hpr (by omega) x)
            rw [hend] at hkz
            have HL : Hid ((primesTo (p + 1)).length = (primesTo p).length + 1) := by
              show (primesTo (p + 1)).length = _
              rw [primesTo_succ, hpr]; simp
            clear hx hend hY
            obtain ⟨fn, tmps, assign, body, hy, hR⟩ := HX.out
            have HR := Lib.hid hR
            clear hR HX
            gi_wp2
            refine HR.out.mono ?_
            rintro e W3 (⟨rfl, hJ3, hk3⟩ | ⟨rfl, hJx3⟩)
            · have hb3 := (hk3.block Bn (Array.getElem?_eq_some_iff.1 hkn).1 (.inl rfl)).trans hkn
              have hz3 := (hk3.block Z (Array.getElem?_eq_some_iff.1 hkz).1 (.inr rfl)).trans hkz
              clear hk3
              gi_wp2
              exact ⟨⟨p + 1, by omega, .inl (by omega), by go_num, by rw [HL.out]; exact hJ3, hb3, hz3⟩, by simp [intOf]; omega⟩
            · gi_wp2
              rw [Exit.noGoto_ret]
              refine bodyPost_ret (results_none rfl _ _ _) rfl ?_
              exact ⟨⟨_, rfl⟩, .inr ⟨_, hJx3⟩⟩
    · have hd : decide ((p : Int) ≤ N') = false := decide_eq_false (fun x => hlt ((HNM.out p hp2).1 x))
      have hlen : (primesTo (m + 1)).length ≤ (primesTo p).length ∧ (primesTo p).length ≤ (primesTo (m + 1)).length := by
        rcases hpm with h | h
        · have : p = m + 1 := by omega
          rw [this]; exact ⟨Nat.le_refl _, Nat.le_refl _⟩
        · subst h
          rw [primesTo_small (show m ≤ 1 by omega)]
          exact ⟨Nat.zero_le _, Nat.le_refl _⟩
      have HE := Lib.hid hlen
      clear hlen
      gi_wp2
      rw [Exit.noGoto_normal]
      go_end0
      exact ⟨⟨_, rfl⟩, .inl ⟨_, HE.out.2, List.getElem?_eq_none HE.out.1, hJp⟩⟩
end Go.Proofs.Ytflchcdmgceecaa.H
