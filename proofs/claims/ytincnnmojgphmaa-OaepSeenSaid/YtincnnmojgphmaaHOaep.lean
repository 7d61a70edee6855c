/- oaep.masks and what it makes, by walking their texts. -/
import Derived.Test.YtincnnmojgphmaaHMgf
import Derived.Laws.IdiomCopy
import Derived.Test.YtincnnmojgphmaaPOx2
import Derived.StillTailTactics
import Derived.Test.YtincnnmojgphmaaPOx1
import Derived.Test.YtincnnmojgphmaaHConcat
import Derived.Lib.Bytes
set_option linter.unusedVariables false
set_option linter.unusedSimpArgs false
namespace Go.Proofs.Ytincnnmojgphmaa.H
open Go.RowKit Go.Proofs.YtincnnmojgphmaaW.PrintWords Go.Proofs.YtincnnmojgphmaaW.PrintLast Go.Proofs.Ytincnnmojgphmaa.Sha Go.Proofs.YtincnnmojgphmaaW.PrintMore Go.Proofs.Ytincnnmojgphmaa.PT
attribute [local go_sem] Oper.semAt_some

/-- A block's cells, from the first on, are some bytes. -/
structure Row (W : World) (b : Nat) (E : List Int) : Prop where
  cell : ∀ i, i < E.length → W.cell? ⟨b, i, none⟩ = some (.int .u8 (E.getD i 0))
  free : ∀ i, i < E.length → W.frozen? ⟨b, i, none⟩ = false
def maskE (h : Int) (E : List Int) (o1 n1 o2 n2 : Nat) : List Int := E.take o1 ++ xorL ((E.drop o1).take n1) (maskL h ((E.drop o2).take n2) n1) ++ E.drop (o1 + n1)
theorem plain_add (b o j : Nat) : (⟨b, o, none⟩ : Addr).add j = ⟨b, o + j, none⟩ := by unfold Addr.add; split <;> simp_all
theorem Row.C {W : World} {b : Nat} {E : List Int} (h : Row W b E) (o n : Nat) (hn : o + n ≤ E.length) (hm : E.length ≤ 100000) : Kd.C (Kd.int .u8) W (some ⟨b, o, none⟩) n ((E.drop o).take n) := by
  have hl : ((E.drop o).take n).length = n := by rw [List.length_take, List.length_drop]; omega
  refine Kd.C_of_reads (d := (0 : Int)) (h1 := fun _ => rfl) ⟨hl, by omega, fun hn0 => ⟨_, rfl, fun j hj => ?_⟩⟩
  rw [plain_add, h.cell (o + j) (by omega)]
  simp [List.getD_eq_getElem?_getD, List.getElem?_take, hj]
theorem Row.of_cells {W : World} {b : Nat} {E : List Int} {T : TypeId} {cur : Array Value} (hg : W.heap[b]? = some (.cells cur T (0, 0))) (hc : ∀ i, i < E.length → cur[i]? = some (.int .u8 (E.getD i 0))) : Row W b E :=
  ⟨fun i h => (blk_cell hg i).trans (hc i h), fun i _ => blk_frozen hg i⟩
theorem Row.of_R {W : World} {base : Nat} {ok : Nat → Prop} {v : Value} {E : List Int} (h : Kd.R (Kd.int .u8) 5 W base ok v E) (hne : 0 < E.length) : ∃ g c, v = .slice (some ⟨g, 0, none⟩) E.length c ∧ base ≤ g ∧ g < W.heap.size ∧ E.length ≤ c ∧ Row W g E := by
  obtain ⟨inner, ho, hr⟩ := h.2
  rcases ho.2 with ⟨_, h0⟩ | ⟨g, cap, cur, hv, hb, hg, hle, _⟩
  · omega
  · subst hv
    refine ⟨g, cap, rfl, hb, (Array.getElem?_eq_some_iff.1 hg).1, hle, ?_, fun i _ => blk_frozen hg i⟩
    intro i hi
    have hC := Kd.reads_of_C (d := (0 : Int)) (Kd.R_reads' h).2.2
    obtain ⟨ad, e, hc⟩ := hC.2.2 hne
    cases e
    have := hc i hi
    rw [plain_add, Nat.zero_add] at this
    exact this
theorem Row.lt {W : World} {b : Nat} {E : List Int} (h : Row W b E) (hne : 0 < E.length) : b < W.heap.size := World.block_lt_of_cell? W _ (h.cell 0 hne)
theorem Row.same {W W' : World} {b : Nat} {E : List Int} (h : Row W b E) (hs : W'.heap[b]? = W.heap[b]?) : Row W' b E := by
  refine ⟨fun i hi => ?_, fun i hi => ?_⟩
  · rw [World.cell?_of_block (w := W) hs]; exact h.cell i hi
  · have := h.free i hi
    unfold World.frozen? at this ⊢
    rw [hs]; exact this
theorem Row.put {W : World} {b : Nat} {E : List Int} (h : Row W b E) (o : Nat) (M : List Int) (hm : o + M.length ≤ E.length) : Row (W.setCells b o (M.map (Value.int .u8))) b (E.take o ++ M ++ E.drop (o + M.length)) := by
  have hlen : (E.take o ++ M ++ E.drop (o + M.length)).length = E.length := by simp; omega
  refine ⟨fun i hi => ?_, fun i hi => ?_⟩
  · by_cases hin : o ≤ i ∧ i < o + M.length
    · have h1 := World.cell?_setCells_in b (M.map (Value.int .u8)) o W (fun j hj => by
        rw [List.length_map] at hj
        rw [h.cell (o + j) (by omega)]; rfl) (i - o) (by rw [List.length_map]; omega)
      rw [show o + (i - o) = i by omega] at h1
      rw [h1, List.getElem_map]
      congr 2
      have h2 : (E.take o).length = o := by rw [List.length_take]; omega
      rw [List.getD_eq_getElem?_getD, List.append_assoc, List.getElem?_append_right (by omega), h2, List.getElem?_append_left (by omega), List.getElem?_eq_getElem (by omega)]
      rfl
    · rw [World.cell?_setCells_out _ _ _ _ _ (fun _ _ => by show i < o ∨ o + _ ≤ i; rw [List.length_map]; omega), h.cell i (by omega)]
      congr 2
      have h2 : (E.take o).length = o := by rw [List.length_take]; omega
      by_cases hlo : i < o
      · rw [List.getD_eq_getElem?_getD, List.getD_eq_getElem?_getD, List.append_assoc, List.getElem?_append_left (by omega), List.getElem?_take_of_lt hlo]
      · rw [List.getD_eq_getElem?_getD, List.getD_eq_getElem?_getD, List.getElem?_append_right (by rw [List.length_append]; omega), List.length_append, h2, List.getElem?_drop, show o + M.length + (i - (o + M.length)) = i by omega]
  · rw [World.frozen?_setCells]; exact h.free i (by omega)
theorem setCells_other (b k : Nat) (hk : k ≠ b) : ∀ (vs : List Value) (o : Nat) (W : World), (W.setCells b o vs).heap[k]? = W.heap[k]?
  | [], _, _ => rfl
  | v :: r, o, W => by rw [World.setCells, setCells_other b k hk r, Below.heap_setCell _ _ _ _ hk]
theorem setCells_size (b : Nat) : ∀ (vs : List Value) (o : Nat) (W : World), (W.setCells b o vs).heap.size = W.heap.size
  | [], _, _ => rfl
  | v :: r, o, W => by rw [World.setCells, setCells_size b r]; simp [World.setCell]
theorem setCells_away (b : Nat) : ∀ (vs : List Value) (o : Nat) (A W : World), Away (fun k => k = b) A W → Away (fun k => k = b) A (W.setCells b o vs)
  | [], _, _, _, h => h
  | v :: r, o, A, W, h => by rw [World.setCells]; exact setCells_away b r _ _ _ (h.setCell (Or.inl rfl) v)

set_option maxRecDepth 100000 in
set_option maxHeartbeats 2000000 in
theorem masks1_in (n : Nat) (hn : 8 ≤ n) (h : Int) (hh : h = 1 ∨ h = 2 ∨ h = 3) (hb : Nat) (w : World) (hcell : w.cell? ⟨hb, 0, none⟩ = some (.int .i64 h)) (b : Nat) (E : List Int) (hE : inB 8 E) (hR : Row w b E) (hlen : E.length ≤ 2000) (hne : 0 < E.length)
    (o1 n1 c1 o2 n2 c2 : Nat) (h1 : o1 + n1 ≤ E.length) (h2 : o2 + n2 ≤ E.length) (hc1 : n1 ≤ c1) (hc2 : n2 ≤ c2) :
    CallsIn Fence.wide n Try.prog 56 #[.slice (some ⟨b, o1, none⟩) n1 c1, .slice (some ⟨b, o2, none⟩) n2 c2, .pointer (some ⟨hb, 0, none⟩)] w fun e w' => (∃ v, e = .returned v) ∧ Row w' b (maskE h E o1 n1 o2 n2) ∧ Away (fun k => k = b) w w' := by
  refine callsIn_of_wp_marks Try.func56 rfl trivial ?_ rfl
  simp only [Try.ntmps56, List.size_toArray, List.length_cons, List.length_nil, Nat.reduceAdd, Nat.reduceSub, Array.replicate_succ, Array.replicate_zero, List.push_toArray, List.append_toArray, List.nil_append, List.cons_append]
  have hCy := hR.C o2 n2 h2 (by omega)
  have hyl : ((E.drop o2).take n2).length = n2 := by rw [List.length_take, List.length_drop]; omega
  have hyb : inB 8 ((E.drop o2).take n2) := inB_take (inB_drop hE o2) n2
  have hmf : mgf_Mask.f h ((E.drop o2).take n2) (n1 : Int) = some (maskL h ((E.drop o2).take n2) n1, 0) := by
    unfold mgf_Mask.f
    rw [if_pos ⟨hyb, by omega⟩, if_pos hh, if_neg (by omega), if_neg (by omega), Int.toNat_natCast]
  have HR := Lib.hid hR
  have HM := Lib.hid hmf
  have HC := Lib.hid hCy
  clear hR hmf hCy
  gi_wp2
  refine ⟨trivial, fun _ => by omega, ?_⟩
  have hcm := mgf_Mask.calls h (some ⟨b, o2, none⟩) c2 ((E.drop o2).take n2) (n1 : Int) _ 0 w (by rw [hyl]; exact HC.out) (by omega) HM.out
  rw [hyl] at hcm
  refine (callsIn_wide.2 hcm).mono ?_
  rintro e w2 ⟨v0, rfl, hv0, hb2⟩
  obtain ⟨Am, cm, rfl⟩ := Kd.V_slice hv0
  have hCm := Kd.V_reads' hv0
  have HB2 := Lib.hid hb2
  have HV := Lib.hid hCm
  clear hv0 hb2 hCm hcm
  gi_wp2
  refine ⟨trivial, fun _ => by omega, ?_⟩
  have hR2 : Row w2 b E := HR.out.same (HB2.out.block b (HR.out.lt hne))
  have hxl : ((E.drop o1).take n1).length = n1 := by rw [List.length_take, List.length_drop]; omega
  have hcx := mgf_Xor.calls 100000 (some ⟨b, o1, none⟩) c1 ((E.drop o1).take n1) Am cm (maskL h ((E.drop o2).take n2) n1) _ w2 (by rw [hxl]; exact hR2.C o1 n1 h1 (by omega)) (by omega) HV.out.2.2 HV.out.2.1 (xor_at _ _ (by omega) 100000 (by omega))
  rw [hxl] at hcx
  refine (callsIn_wide.2 hcx).mono ?_
  rintro e w3 ⟨v1, rfl, hv1, hb3⟩
  obtain ⟨Ax, cx, rfl⟩ := Kd.R_slice hv1
  have hRx := Kd.R_reads' hv1
  have hlx : (xorL ((E.drop o1).take n1) (maskL h ((E.drop o2).take n2) n1)).length = n1 := by rw [xorL_length, hxl]
  rw [hlx] at hRx ⊢
  have HB3 := Lib.hid hb3
  have HRX := Lib.hid hRx
  have HR2 := Lib.hid hR2
  have HLX := Lib.hid hlx
  clear hcx hv1 hb3 hRx hR2
  gi_wp2
  have hcopy : ∃ w4, (Builtin.copy_ #[22, 22] 3 #[Value.slice (some ⟨b, o1, none⟩) n1 c1, Value.slice Ax n1 cx]).run Try.prog w3 = .ok (goInt n1) w4 ∧ Row w4 b (maskE h E o1 n1 o2 n2) ∧ Away (fun k => k = b) w w4 := by
    have hR2 := HR2.out
    have hR3 : Row w3 b E := hR2.same (HB3.out.block b (hR2.lt hne))
    have ha3 : Away (fun k => k = b) w w3 := (Away.of_below HB2.out).trans (Away.of_below (S := fun k => k = b) HB3.out)
    by_cases h0 : n1 = 0
    · refine ⟨w3, ?_, ?_, ha3⟩
      · rw [run_copy_none w3 22 22 3 5 (some ⟨b, o1, none⟩) Ax n1 c1 n1 cx Try.underlying22 (by kernel_rfl) (by simp [h0]), h0]
        rfl
      · have hl := HLX.out
        rw [h0] at hl
        unfold maskE
        rw [h0]
        rw [List.eq_nil_of_length_eq_zero hl, List.append_nil, Nat.add_zero, List.take_append_drop]
        exact hR3
    · have hCx := Kd.reads_of_C (d := (0 : Int)) HRX.out.2.2
      obtain ⟨ad, rfl, hcx⟩ := hCx.2.2 (by omega)
      have hrun := run_copy_cells (P := Try.prog) w3 22 22 3 5 b o1 n1 c1 ad n1 cx ((xorL ((E.drop o1).take n1) (maskL h ((E.drop o2).take n2) n1)).map (Value.int .u8)) Try.underlying22 (by kernel_rfl) (by rw [List.length_map, HLX.out]; simp)
        (fun j v hj => by
          rw [List.getElem?_map] at hj
          obtain ⟨y, hy, rfl⟩ := Option.map_eq_some_iff.1 hj
          have hjl := (List.getElem?_eq_some_iff.1 hy).1
          rw [hcx j (by omega), List.getD_eq_getElem?_getD, hy]
          rfl)
        (fun j hj => by
          rw [List.length_map, HLX.out] at hj
          rw [hR3.cell (o1 + j) (by omega)]; rfl)
        (fun j hj => by
          rw [List.length_map, HLX.out] at hj
          exact hR3.free (o1 + j) (by omega))
        (fun v hv => by
          obtain ⟨y, _, rfl⟩ := List.mem_map.1 hv
          rfl)
      rw [List.length_map, HLX.out] at hrun
      refine ⟨_, hrun, ?_, setCells_away b _ _ _ _ ha3⟩
      have := hR3.put o1 (xorL ((E.drop o1).take n1) (maskL h ((E.drop o2).take n2) n1)) (by rw [HLX.out]; exact h1)
      rw [HLX.out] at this
      exact this
  obtain ⟨w4, hrun, hr4, ha4⟩ := hcopy
  rw [hrun]
  clear hrun
  gi_wp2
  refine ⟨.tuple #[], by simp [results, go_sem], ⟨_, rfl⟩, hr4, ha4⟩

set_option maxRecDepth 100000 in
theorem masks_in (n : Nat) (hn : 8 ≤ n) (h : Int) (w : World) :
    CallsIn Fence.wide n Try.prog 39 #[.int .i64 h] w fun e w' => e = .returned (.func (.func 56) #[] #[.pointer (some ⟨w.heap.size, 0, none⟩)]) ∧ w' = w.alloc (.cells #[.int .i64 h] 3) := by
  refine callsIn_of_wp_marks Try.func39 rfl trivial ?_ rfl
  simp only [Try.ntmps39, List.size_toArray, List.length_cons, List.length_nil, Nat.reduceAdd, Nat.reduceSub, Array.replicate_succ, Array.replicate_zero, List.push_toArray, List.append_toArray, List.nil_append, List.cons_append]
  gi_wp2
  exact ⟨.func (.func 56) #[] #[.pointer (some ⟨w.heap.size, 0, none⟩)], by simp [results, go_sem], rfl, rfl⟩
end Go.Proofs.Ytincnnmojgphmaa.H

set_option linter.unusedVariables false
set_option linter.unusedSimpArgs false
namespace Go.Proofs.Ytincnnmojgphmaa.H
open Go.RowKit Go.Proofs.YtincnnmojgphmaaW.PrintWords Go.Proofs.YtincnnmojgphmaaW.PrintLast Go.Proofs.Ytincnnmojgphmaa.Sha Go.Proofs.YtincnnmojgphmaaW.PrintMore Go.Proofs.Ytincnnmojgphmaa.PT Go.Proofs.Ytincnnmojgphmaa.PO
attribute [local go_sem] Oper.semAt_some

theorem put_nil (n : Nat) (hn : 2 ≤ n) (c : Array Value) (w : World) : CallsIn Fence.wide n Try.prog 60 #[.pointer none, .agg c] w fun e w' => e = .returned (.tuple #[]) ∧ Below w.heap.size w w' := by
  refine callsIn_of_wp_marks Try.func60 rfl trivial ?_ rfl
  simp only [Try.ntmps60, List.size_toArray, List.length_cons, List.length_nil, Nat.reduceAdd, Nat.reduceSub, Array.replicate_succ, Array.replicate_zero, List.push_toArray, List.append_toArray, List.nil_append, List.cons_append]
  gi_wp2
  exact ⟨.tuple #[], by simp [results, go_sem], rfl, (Below.refl _ _).alloc (Nat.le_refl _) _⟩
theorem span_nil (n : Nat) (hn : 3 ≤ n) (k : Int) (w : World) : CallsIn Fence.wide n Try.prog 43 #[.pointer none, .int .i64 k] w fun e w' => e = .returned (.tuple #[]) ∧ Below w.heap.size w w' := by
  refine callsIn_of_wp_marks Try.func43 rfl trivial ?_ rfl
  simp only [Try.ntmps43, List.size_toArray, List.length_cons, List.length_nil, Nat.reduceAdd, Nat.reduceSub, Array.replicate_succ, Array.replicate_zero, List.push_toArray, List.append_toArray, List.nil_append, List.cons_append]
  gi_wp2
  refine ⟨trivial, fun _ => by omega, ?_⟩
  refine (put_nil (n - 1) (by omega) _ _).mono ?_
  rintro e w2 ⟨rfl, hb2⟩
  gi_wp2
  exact ⟨.tuple #[], by simp [results, go_sem], rfl, hb2⟩
def accE (a b : List Int) : Nat → Int
  | 0 => 0
  | i + 1 => Go.bits .or .u64 (accE a b i) (IntKind.u64.wrap (Go.bits .xor .u8 (a.getD i 0) (b.getD i 0)))
theorem i64_xor_self (k : Nat) : Go.bits .xor .i64 (k : Int) (k : Int) = 0 := by
  unfold Go.bits
  simp
  decide
theorem zero_u64 (x : Int) (h0 : 0 ≤ x) (h : x < 18446744073709551616) : word_Zero.f x = some (if x = 0 then 1 else 0) := by
  obtain ⟨m, rfl⟩ := Int.eq_ofNat_of_zero_le h0
  by_cases hm : m = 0
  · subst hm; decide
  · unfold word_Zero.f
    rw [if_neg (by omega), show IntKind.u64.wrap (-(m : Int)) = ((18446744073709551616 - m : Nat) : Int) by rw [IntKind.wrap_u64]; omega, u64_or_nat _ _ (by omega) (by omega)]
    have h1 : 9223372036854775808 ≤ m ||| (18446744073709551616 - m) := by
      by_cases h2 : 9223372036854775808 ≤ m
      · exact Nat.le_trans h2 Nat.left_le_or
      · exact Nat.le_trans (show 9223372036854775808 ≤ 18446744073709551616 - m by omega) Nat.right_le_or
    have h3 : m ||| (18446744073709551616 - m) < 2 ^ 64 := Nat.or_lt_two_pow (by omega) (by omega)
    generalize m ||| (18446744073709551616 - m) = z at h1 h3
    rw [show ((z : Int) / 9223372036854775808) = 1 by omega]
    decide
theorem accE_in (a b : List Int) (ha : inB 8 a) (hb : inB 8 b) : ∀ i, i ≤ a.length → i ≤ b.length → 0 ≤ accE a b i ∧ accE a b i < 256 ∧ (accE a b i = 0 ↔ a.take i = b.take i)
  | 0, _, _ => ⟨Int.le_refl 0, by show (0 : Int) < 256; decide, by simp [accE]⟩
  | i + 1, h1, h2 => by
    obtain ⟨i1, i2, i3⟩ := accE_in a b ha hb i (by omega) (by omega)
    have ax := ha (a.getD i 0) (by rw [List.getD_eq_getElem?_getD, List.getElem?_eq_getElem (by omega)]; exact List.getElem_mem _)
    have bx := hb (b.getD i 0) (by rw [List.getD_eq_getElem?_getD, List.getElem?_eq_getElem (by omega)]; exact List.getElem_mem _)
    have hx := xor_u8_in _ _ ax bx
    rw [accE, show IntKind.u64.wrap (Go.bits .xor .u8 (a.getD i 0) (b.getD i 0)) = Go.bits .xor .u8 (a.getD i 0) (b.getD i 0) by rw [IntKind.wrap_u64]; omega]
    have hz : Go.bits .xor .u8 (a.getD i 0) (b.getD i 0) = 0 ↔ a.getD i 0 = b.getD i 0 := by
      constructor
      · intro h
        have h3 := xor_u8_back _ _ ax bx
        rw [h, u8_xor 0 _ (by decide) (by decide) bx.1 bx.2] at h3
        rw [Int.toNat_zero, Nat.zero_xor] at h3
        have := bx.1
        omega
      · intro h
        rw [h, u8_xor _ _ bx.1 bx.2 bx.1 bx.2, Nat.xor_self]; rfl
    have ht : a.take (i + 1) = b.take (i + 1) ↔ a.take i = b.take i ∧ a.getD i 0 = b.getD i 0 := by
      rw [List.take_succ_eq_append_getElem (by omega), List.take_succ_eq_append_getElem (l := b) (by omega), List.getD_eq_getElem?_getD, List.getD_eq_getElem?_getD, List.getElem?_eq_getElem (by omega), List.getElem?_eq_getElem (by omega)]
      constructor
      · intro h
        have := List.append_inj h (by rw [List.length_take, List.length_take]; omega)
        exact ⟨this.1, by simpa using this.2⟩
      · rintro ⟨h3, h4⟩
        rw [h3]
        simp at h4
        rw [h4]
    obtain ⟨u, hu⟩ := Int.eq_ofNat_of_zero_le i1
    obtain ⟨v, hv⟩ := Int.eq_ofNat_of_zero_le hx.1
    rw [hv] at hx hz ⊢
    rw [hu] at i2 i3 ⊢
    rw [u64_or_nat _ _ (by omega) (by omega), ht, ← hz, ← i3]
    have h5 : u ||| v < 2 ^ 8 := Nat.or_lt_two_pow (by omega) (by omega)
    refine ⟨by omega, by omega, ?_⟩
    have h6 : u ||| v = 0 ↔ u = 0 ∧ v = 0 := Nat.or_eq_zero_iff
    omega
set_option maxRecDepth 100000 in
set_option maxHeartbeats 2000000 in
theorem equal_nil (A1 : Option Addr) (c1 : Nat) (a : List Int) (A2 : Option Addr) (c2 : Nat) (b : List Int) (w : World) (h1 : Kd.C (Kd.int .u8) w A1 a.length a) (hc1 : a.length ≤ c1) (h2 : Kd.C (Kd.int .u8) w A2 b.length b) (hc2 : b.length ≤ c2)
    (hl : a.length = b.length) (hm : a.length ≤ 100000) (ha : inB 8 a) (hb : inB 8 b) (R : Int) (hR : R = if a = b then 1 else 0) :
    Calls Try.prog 42 #[.pointer none, .slice A1 a.length c1, .slice A2 b.length c2] w fun e w' => e = .returned (.int .u64 R) ∧ Below w.heap.size w w' := by
  have HSp : Hid (∀ (k : Int) (W : World), Calls Try.prog 43 #[.pointer none, .int .i64 k] W fun e w' => e = .returned (.tuple #[]) ∧ Below W.heap.size W w') := fun k W => (callsIn_wide (n := 8)).1 (span_nil 8 (by omega) k W)
  have HZe : Hid (∀ (x : Int) (r : Int) (W : World), word_Zero.f x = some r → Calls Try.prog 41 #[.int .u64 x] W fun e w' => e = .returned (.int .u64 r) ∧ Drawn0 W w') := fun x r W h => word_Zero.calls x r W h
  have H1 := Lib.hid h1
  have H2 := Lib.hid h2
  clear h1 h2
  rw [← hl] at hc2 H2 ⊢
  have HRR := Lib.hid hR
  clear hR
  go_enter Try.func42, Try.ntmps42
  go_wp2_with fail
  refine (HSp.out _ _).mono ?_
  rintro e w2 ⟨rfl, hb2⟩
  have HB2 := Lib.hid hb2
  clear hb2
  go_wp2_with fail
  go_loopw [8, 29] (fun x i wr => ∃ k : Nat, k ≤ a.length ∧ i = .int .i64 k ∧ x = .int .u64 (accE a b k) ∧ Hid (Below w.heap.size w wr)) (fun _ i _ => a.length - (intOf i).toNat)
  case atStart =>
    refine ⟨0, by omega, rfl, ?_, HB2⟩
    have h0 : Go.bits .xor .i64 (b.length : Int) (b.length : Int) = 0 := by
      rw [i64_xor_self]
    rw [h0]
    rfl
  case round =>
    obtain ⟨k, hk, rfl, rfl, hbw⟩ := hrel
    by_cases hlt : k < a.length
    · have hC1 := Kd.reads_of_C (d := (0 : Int)) (C_same H1.out (fun i hi => hbw.out.block i hi))
      have hC2 := Kd.reads_of_C (d := (0 : Int)) (C_same H2.out (fun i hi => hbw.out.block i hi))
      obtain ⟨ad1, rfl, hr1⟩ := hC1.2.2 (by omega)
      obtain ⟨ad2, rfl, hr2⟩ := hC2.2.2 (by omega)
      have q1 := hr1 k hlt
      have q2 := hr2 k hlt
      have hk64 : (k : Int) < (a.length : Int) := by omega
      have hk0 : (0 : Int) ≤ (k : Int) := by omega
      clear hr1 hr2 hC1 hC2
      go_wp2_with fail
      go_quiet (fail)
      go_wp2_with fail
      go_roundw
      case rel =>
        refine ⟨k + 1, by omega, by go_num, ?_, pw_below_drewN hbw.out _⟩
        rw [accE, List.getD_eq_getElem?_getD, List.getD_eq_getElem?_getD, List.getElem?_eq_getElem (by omega), List.getElem?_eq_getElem (by omega)]
        rfl
      case measure => simp [intOf]; omega
    · have hka : k = a.length := by omega
      have hin := accE_in a b ha hb k (by omega) (by omega)
      have hz := zero_u64 (accE a b k) hin.1 (by omega)
      have heq : (if accE a b k = 0 then (1 : Int) else 0) = if a = b then 1 else 0 := by
        have h3 := hin.2.2
        rw [List.take_of_length_le (by omega), List.take_of_length_le (by omega)] at h3
        by_cases h4 : a = b
        · rw [if_pos (h3.2 h4), if_pos h4]
        · rw [if_neg (fun x => h4 (h3.1 x)), if_neg h4]
      rw [heq, ← HRR.out] at hz
      clear heq hin hka
      have HZ2 := Lib.hid hz
      clear hz
      go_wp2_with fail
      refine (HZe.out _ _ _ HZ2.out).mono ?_
      rintro e w9 ⟨rfl, hd9⟩
      have HB9 := Lib.hid (hbw.out.trans (hd9.below.mono hbw.out.size))
      clear hd9
      go_wp2_with fail
      go_ret
      exact ⟨rfl, HB9.out⟩
theorem zero_still (x : Int) (h0 : 0 ≤ x) (h : x < 18446744073709551616) (z : Int) (hz : z = if x = 0 then 1 else 0) (w : World) : Calls Try.prog 41 #[.int .u64 x] w fun e w' => e = .returned (.int .u64 z) ∧ w' = w := by
  have hf := zero_u64 x h0 h
  rw [← hz] at hf
  unfold word_Zero.f at hf
  have hf2 := Option.some.inj hf
  have HF := Lib.hid hf2
  clear hf hf2 hz
  go_enter Try.func41, Try.ntmps41
  go_wp2_with fail
  go_ret
  exact ⟨by rw [← HF.out]; rfl, rfl⟩
theorem select_val (b : Int) (hb : b = 0 ∨ b = 1) (x y : Nat) (hx : x < 18446744073709551616) (hy : y < 18446744073709551616) : word_Select.f b (x : Int) (y : Int) = some (((if b = 1 then x else y : Nat)) : Int) := by
  unfold word_Select.f word_Mask.f
  rw [Option.bind_some]
  rcases hb with rfl | rfl
  · rw [show IntKind.u64.wrap (-(Go.bits .and .u64 0 1)) = ((0 : Nat) : Int) by decide, u64_and_nat _ _ hx (by decide), u64_andNot_nat _ _ hy (by decide), Nat.and_zero, Nat.sub_zero, if_neg (by decide)]
    rw [show 18446744073709551615 = 2 ^ 64 - 1 by decide, Nat.and_two_pow_sub_one_eq_mod, Nat.mod_eq_of_lt hy, u64_or_nat _ _ (by decide) hy, Nat.zero_or]
  · rw [show IntKind.u64.wrap (-(Go.bits .and .u64 1 1)) = ((18446744073709551615 : Nat) : Int) by decide, u64_and_nat _ _ hx (by decide), u64_andNot_nat _ _ hy (by decide), Nat.sub_self, Nat.and_zero, if_pos rfl]
    rw [show 18446744073709551615 = 2 ^ 64 - 1 by decide, Nat.and_two_pow_sub_one_eq_mod, Nat.mod_eq_of_lt hx, u64_or_nat _ _ hx (by decide), Nat.or_zero]
theorem equal_fin : ∀ x : Fin 256, word_Equal.f ((x.val : Nat) : Int) 1 = some (if ((x.val : Nat) : Int) = 1 then 1 else 0) := by decide +kernel
theorem equal_val (x : Int) (h0 : 0 ≤ x) (h1 : x < 256) : word_Equal.f x 1 = some (if x = 1 then 1 else 0) := by
  have := equal_fin ⟨x.toNat, by omega⟩
  rw [show ((x.toNat : Nat) : Int) = x by omega] at this
  exact this
/-- The loop over what lies behind the hash: whether all is well, where the first byte that is not 0 stands, whether there is one. -/
def scan (ok0 : Int) (db : List Int) (s : Nat) : Nat → Int × Nat × Int
  | 0 => (ok0, 0, 0)
  | d + 1 =>
    let r := scan ok0 db s d
    if db.getD (s + d) 0 ≠ 0 ∧ r.2.2 = 0 then (if db.getD (s + d) 0 = 1 then r.1 else 0, s + d, 1) else r
def decL (h : Int) (em : List Int) : List Int :=
  let E1 := maskE h em 1 (hlen h) (1 + hlen h) (em.length - (1 + hlen h))
  maskE h E1 (1 + hlen h) (em.length - (1 + hlen h)) 1 (hlen h)
def okL (h : Int) (label em : List Int) : Int := if (decL h em).getD 0 0 = 0 ∧ ((decL h em).drop (1 + hlen h)).take (hlen h) = hsum h label then 1 else 0
def openL (h : Int) (label em : List Int) : List Int × Int :=
  let db := (decL h em).drop (1 + hlen h)
  let r := scan (okL h label em) db (hlen h) (db.length - hlen h)
  if r.1 = 1 ∧ r.2.2 = 1 then (db.drop (r.2.1 + 1), 0) else ([], 230)
theorem maskE_length (h : Int) (E : List Int) (o1 n1 o2 n2 : Nat) (h1 : o1 + n1 ≤ E.length) : (maskE h E o1 n1 o2 n2).length = E.length := by
  unfold maskE
  rw [List.length_append, List.length_append, xorL_length, List.length_take, List.length_take, List.length_drop, List.length_drop]
  omega
theorem d_in_append {n : Nat} {a b : List Int} (ha : inB n a) (hb : inB n b) : inB n (a ++ b) := fun x hx => by
  rcases List.mem_append.1 hx with h | h
  · exact ha x h
  · exact hb x h
theorem d_out6_in (l : List Int) : inB 8 (out6 l) := by
  intro x hx
  obtain ⟨y, _, hy⟩ := List.mem_flatMap.1 hx
  obtain ⟨j, _, rfl⟩ := List.mem_map.1 hy
  omega
theorem d_out5_in (l : List Int) : inB 8 (out5 l) := by
  intro x hx
  obtain ⟨y, _, hy⟩ := List.mem_flatMap.1 hx
  simp only [bytes5, List.mem_cons, List.not_mem_nil, or_false] at hy
  omega
theorem hsum_in (h : Int) (hh : h = 1 ∨ h = 2 ∨ h = 3) (l : List Int) (hb : inB 8 l) : inB 8 (hsum h l) := by
  unfold hsum
  split
  · exact d_out5_in _
  · split
    · exact fun x hx => d_out6_in _ x (List.mem_of_mem_take hx)
    · exact d_out6_in _
theorem d_outI_in (h : Int) (hh : h = 1 ∨ h = 2 ∨ h = 3) (l : List Int) (hb : inB 8 l) : ∀ i, inB 8 (outI h l i)
  | 0 => fun x hx => by simp [outI] at hx
  | i + 1 => d_in_append (d_outI_in h hh l hb i) (hsum_in h hh _ (inB_append hb (be4_in _)))
theorem maskL_in (h : Int) (hh : h = 1 ∨ h = 2 ∨ h = 3) (l : List Int) (hb : inB 8 l) (n : Nat) : inB 8 (maskL h l n) := inB_take (d_outI_in h hh l hb n) n
theorem maskE_in (h : Int) (hh : h = 1 ∨ h = 2 ∨ h = 3) (E : List Int) (hE : inB 8 E) (o1 n1 o2 n2 : Nat) : inB 8 (maskE h E o1 n1 o2 n2) := by
  unfold maskE
  exact inB_append (inB_append (inB_take hE _) (xorL_in _ _ (inB_take (inB_drop hE _) _) (maskL_in h hh _ (inB_take (inB_drop hE _) _) _))) (inB_drop hE _)
theorem scan_in (ok0 : Int) (hok : ok0 = 0 ∨ ok0 = 1) (db : List Int) (s : Nat) : ∀ d, ((scan ok0 db s d).1 = 0 ∨ (scan ok0 db s d).1 = 1) ∧ (scan ok0 db s d).2.1 ≤ s + d ∧ ((scan ok0 db s d).2.2 = 0 ∨ (scan ok0 db s d).2.2 = 1) ∧ ((scan ok0 db s d).2.1 < s + d ∨ (scan ok0 db s d).2.2 = 0)
  | 0 => ⟨hok, by simp [scan], .inl rfl, .inr rfl⟩
  | d + 1 => by
    obtain ⟨h1, h2, h3, h4⟩ := scan_in ok0 hok db s d
    rw [scan]
    split
    · refine ⟨?_, by show s + d ≤ s + (d + 1); omega, .inr rfl, .inl (by show s + d < s + (d + 1); omega)⟩
      show (if db.getD (s + d) 0 = 1 then (scan ok0 db s d).1 else 0) = 0 ∨ (if db.getD (s + d) 0 = 1 then (scan ok0 db s d).1 else 0) = 1
      split
      · exact h1
      · exact .inl rfl
    · exact ⟨h1, by omega, h3, h4.imp (fun x => by omega) id⟩
set_option maxRecDepth 100000 in
set_option maxHeartbeats 2000000 in
theorem decode_good (h : Int) (hh : h = 1 ∨ h = 2 ∨ h = 3) (A1 : Option Addr) (c1 : Nat) (label : List Int) (A2 : Option Addr) (c2 : Nat) (em : List Int) (w : World) (h1 : Kd.C (Kd.int .u8) w A1 label.length label) (hc1 : label.length ≤ c1) (h2 : Kd.C (Kd.int .u8) w A2 em.length em) (hc2 : em.length ≤ c2)
    (hb1 : inB 8 label) (hbE : inB 8 em) (hm1 : label.length ≤ 100000) (hlo : 2 * hlen h + 2 ≤ em.length) (hhi : em.length ≤ 1024) (r1 : List Int) (r2 : Int) (hr : openL h label em = (r1, r2)) :
    Calls Try.prog 20 #[.pointer none, .int .i64 h, .slice A1 label.length c1, .slice A2 em.length c2] w fun e w' => ∃ v0_ : Value, e = .returned (.tuple #[v0_, .int .i64 r2]) ∧ Kd.R (Kd.int .u8) 5 w' w.heap.size (fun _ => True) v0_ r1 ∧ Below w.heap.size w w' := by
  have hsz : Hid (∀ W, Calls Try.prog 29 #[.int .i64 h] W fun e w' => e = .returned (.int .i64 (hlen h : Int)) ∧ Below W.heap.size W w') := fun W => hash_Size.calls h _ W (size_at h hh)
  have hl0 : ((hlen h : Int) == 0) = false := by have := hlen_pos h; simp; omega
  have HCl : Hid (∀ (W1 : World), Below w.heap.size w W1 → Calls Try.prog 38 #[.slice A2 em.length c2] W1 fun e w' => ∃ v0_ : Value, e = .returned v0_ ∧ Kd.R (Kd.int .u8) 5 w' W1.heap.size (fun k => W1.heap.size ≤ k) v0_ em ∧ Below W1.heap.size W1 w') := by
    intro W1 hb
    refine (slices_Clone_byte_byte.calls A2 c2 em em W1 (C_same h2 (fun i hi => hb.block i hi)) hc2 (by simp [slices_Clone_byte_byte.f]; omega)).mono ?_
    rintro e w' ⟨v, rfl, hv, hb2⟩
    exact ⟨v, rfl, Kd.R_mono (Kd.R_bound hv) (fun k hk => hk.2.1), hb2⟩
  have HSm : Hid (∀ (W1 : World), Below w.heap.size w W1 → Calls Try.prog 40 #[.int .i64 h, .slice A1 label.length c1] W1 fun e w' => ∃ v0_ : Value, e = .returned (.tuple #[v0_, .int .i64 0]) ∧ Kd.V (Kd.int .u8) 5 w' W1.heap.size (fun k_ => (W1.heap.size ≤ k_)) v0_ (hsum h label) ∧ Below W1.heap.size W1 w') :=
    fun W1 hb => hash_Sum.calls h A1 c1 label (hsum h label) 0 W1 (C_same h1 (fun i hi => hb.block i hi)) hc1 (sum_at h hh label hb1 (by omega))
  have HSp : Hid (∀ (k : Int) (W : World), Calls Try.prog 43 #[.pointer none, .int .i64 k] W fun e w' => e = .returned (.tuple #[]) ∧ Below W.heap.size W w') := fun k W => (callsIn_wide (n := 8)).1 (span_nil 8 (by omega) k W)
  have HMk : Hid (∀ W, Calls Try.prog 39 #[.int .i64 h] W fun e w' => e = .returned (.func (.func 56) #[] #[.pointer (some ⟨W.heap.size, 0, none⟩)]) ∧ w' = W.alloc (.cells #[.int .i64 h] 3)) := fun W => (callsIn_wide (n := 8)).1 (masks_in 8 (by omega) h W)
  have H1 := Lib.hid h1
  have H2 := Lib.hid h2
  clear h1 h2
  go_enter Try.func20, Try.ntmps20
  go_wp2_with fail
  refine (hsz.out _).mono ?_
  rintro e w2 ⟨rfl, hb2⟩
  have HB2 := Lib.hid hb2
  clear hb2
  go_wp2_with fail
  refine (HCl.out _ HB2.out).mono ?_
  rintro e w3 ⟨v3, rfl, hv3, hb3⟩
  obtain ⟨g, c3, rfl, hg0, hg1, hgc, hrow⟩ := Row.of_R hv3 (by have := hlen_pos h; omega)
  have HB3 := Lib.hid (HB2.out.trans (hb3.mono HB2.out.size))
  have HROW := Lib.hid hrow
  have HG : Hid (w.heap.size ≤ g) := Nat.le_trans HB2.out.size hg0
  have HG1 := Lib.hid hg1
  clear hb3 hrow hg0 hg1 hv3
  go_wp2_with fail
  refine (HMk.out w3).mono ?_
  rintro e w4 ⟨rfl, hw4⟩
  have hcell4 : w4.cell? ⟨w3.heap.size, 0, none⟩ = some (.int .i64 h) := by rw [hw4]; exact blk_cell (World.alloc_heap_new w3 _) 0
  have hrow4 : Row w4 g em := HROW.out.same (by rw [hw4]; exact Below.heap_alloc _ _ _ HG1.out)
  have hbel4 : Below w.heap.size w w4 := by rw [hw4]; exact HB3.out.alloc HB3.out.size _
  have HCE4 := Lib.hid hcell4
  have HRO4 := Lib.hid hrow4
  have HB4 := Lib.hid hbel4
  clear hcell4 hrow4 hbel4 hw4
  have hs0 : (0 : Int) ≤ (hlen h : Int) := by omega
  have hs1 : (1 : Int) + (hlen h : Int) ≤ (em.length : Int) := by omega
  have hs2 : (em.length : Int) ≤ (c3 : Int) := by omega
  go_wp2_with fail
  have hw1 : IntKind.i64.wrap (1 + (hlen h : Int)) = 1 + (hlen h : Int) := by rw [IntKind.wrap_i64]; omega
  have q0 : (0 : Int) ≤ 1 + (hlen h : Int) := by omega
  have q1 : 1 + (hlen h : Int) ≤ (c3 : Int) := by omega
  have q2 : (1 : Int) ≤ max (1 + (hlen h : Int)) 0 := by omega
  have q3 : (1 : Int) ≤ 1 + (hlen h : Int) := by omega
  have q4 : (1 + (hlen h : Int)).toNat = 1 + hlen h := by omega
  have q5 : (1 + hlen h) - 1 = hlen h := by omega
  have q6 : (c3 = 1) = False := eq_false (by omega)
  have q7 : (c3 = 1 + hlen h) = False := eq_false (by have := hlen_pos h; omega)
  go_still_tail 9, (by kernel_rfl)
  change wpList _ _ _ _ _ w4.drew
  have HCE5 : Hid (w4.drew.cell? ⟨w3.heap.size, 0, none⟩ = some (.int .i64 h)) := HCE4.out
  have HRO5 : Hid (Row w4.drew g em) := HRO4.out.same rfl
  have HB5 : Hid (Below w.heap.size w w4.drew) := HB4.out.drew
  clear HCE4 HRO4 HB4
  generalize w4.drew = w5 at HCE5 HRO5 HB5 ⊢
  go_wp2_with fail
  have hsl := hlen_pos h
  have hN0 : 0 < em.length := by omega
  refine (((callsIn_wide (n := 8)).1 (masks1_in 8 (by omega) h hh w3.heap.size w5 HCE5.out g em hbE HRO5.out (by omega) hN0 1 (hlen h) (c3 - 1) (1 + hlen h) (em.length - (1 + hlen h)) (c3 - (1 + hlen h)) (by omega) (by omega) (by omega) (by omega)))).mono ?_
  rintro e w6 ⟨⟨v6, rfl⟩, hrow6, haw6⟩
  obtain ⟨E1, hE1⟩ : ∃ E1, E1 = maskE h em 1 (hlen h) (1 + hlen h) (em.length - (1 + hlen h)) := ⟨_, rfl⟩
  rw [← hE1] at hrow6
  have hl1 : E1.length = em.length := by rw [hE1]; exact maskE_length _ _ _ _ _ _ (by omega)
  have hi1 : inB 8 E1 := by rw [hE1]; exact maskE_in h hh _ hbE _ _ _ _
  have hcell6 : w6.cell? ⟨w3.heap.size, 0, none⟩ = some (.int .i64 h) := by
    rw [World.cell?_of_block (w := w5) (haw6.block _ (World.block_lt_of_cell? _ _ HCE5.out) (by have := HG1.out; show w3.heap.size ≠ g; omega))]
    exact HCE5.out
  have hb6 : Below w.heap.size w w6 := Away.below HB5.out haw6 (fun i hi => by rw [hi]; exact HG.out) HB5.out.size
  have HE1 := Lib.hid hE1
  have HCE6 := Lib.hid hcell6
  have HRO6 := Lib.hid hrow6
  have HB6 := Lib.hid hb6
  have HL1 := Lib.hid hl1
  have HI1 := Lib.hid hi1
  clear hE1 hl1 hi1 hcell6 hrow6 hb6 haw6 HCE5 HRO5 HB5
  go_wp2_with fail
  go_still_tail 9, (by kernel_rfl)
  change wpList _ _ _ _ _ w6.drew
  have HCE7 : Hid (w6.drew.cell? ⟨w3.heap.size, 0, none⟩ = some (.int .i64 h)) := HCE6.out
  have HRO7 : Hid (Row w6.drew g E1) := HRO6.out.same rfl
  have HB7 : Hid (Below w.heap.size w w6.drew) := HB6.out.drew
  clear HCE6 HRO6 HB6
  generalize w6.drew = w7 at HCE7 HRO7 HB7 ⊢
  go_wp2_with fail
  refine (((callsIn_wide (n := 8)).1 (masks1_in 8 (by omega) h hh w3.heap.size w7 HCE7.out g E1 HI1.out HRO7.out (by rw [HL1.out]; omega) (by rw [HL1.out]; omega) (1 + hlen h) (em.length - (1 + hlen h)) (c3 - (1 + hlen h)) 1 (hlen h) (c3 - 1) (by rw [HL1.out]; omega) (by rw [HL1.out]; omega) (by omega) (by omega)))).mono ?_
  rintro e w8 ⟨⟨v8, rfl⟩, hrow8, haw8⟩
  have hE2 : maskE h E1 (1 + hlen h) (em.length - (1 + hlen h)) 1 (hlen h) = decL h em := by rw [HE1.out]; rfl
  rw [hE2] at hrow8
  have hl2 : (decL h em).length = em.length := by rw [← hE2, maskE_length _ _ _ _ _ _ (by rw [HL1.out]; omega), HL1.out]
  have hi2 : inB 8 (decL h em) := by rw [← hE2]; exact maskE_in h hh _ HI1.out _ _ _ _
  have hb8 : Below w.heap.size w w8 := Away.below HB7.out haw8 (fun i hi => by rw [hi]; exact HG.out) HB7.out.size
  obtain ⟨D, hD⟩ : ∃ D, D = decL h em := ⟨_, rfl⟩
  rw [← hD] at hrow8 hl2 hi2
  have HD := Lib.hid hD
  have HRO8 := Lib.hid hrow8
  have HB8 := Lib.hid hb8
  have HL2 := Lib.hid hl2
  have HI2 := Lib.hid hi2
  clear hD hl2 hi2 hrow8 hb8 haw8 hE2 HCE7 HRO7 HB7 HE1 HL1 HI1
  go_wp2_with fail
  refine (HSm.out _ HB8.out).mono ?_
  rintro e w9 ⟨v9, rfl, hv9, hb9⟩
  obtain ⟨Ao, co, rfl⟩ := Kd.V_slice hv9
  have hVr := Kd.V_reads' hv9
  rw [hsum_length] at hVr ⊢
  have HRO9 : Hid (Row w9 g D) := HRO8.out.same (hb9.block _ (HRO8.out.lt (by rw [HL2.out]; exact hN0)))
  have HV9 := Lib.hid hVr
  have HB9 : Hid (Below w.heap.size w w9) := HB8.out.trans (hb9.mono HB8.out.size)
  clear hVr hv9 hb9 HRO8 HB8
  have hd0 : w9.cell? ⟨g, 0, none⟩ = some (.int .u8 (D.getD 0 0)) := HRO9.out.cell 0 (by rw [HL2.out]; exact hN0)
  have hc30 : (0 : Int) < (c3 : Int) := by omega
  have hem0 : (0 : Int) < (em.length : Int) := by omega
  go_wp2_with fail
  have hdb : 0 ≤ D.getD 0 0 ∧ D.getD 0 0 < 256 := by
    rw [List.getD_eq_getElem?_getD, List.getElem?_eq_getElem (by rw [HL2.out]; exact hN0)]
    exact HI2.out _ (List.getElem_mem _)
  have hw8 : IntKind.u64.wrap (D.getD 0 0) = D.getD 0 0 := by rw [IntKind.wrap_u64]; omega
  obtain ⟨d0, hd0e⟩ : ∃ d0, d0 = D.getD 0 0 := ⟨_, rfl⟩
  rw [← hd0e] at hd0 hdb hw8
  obtain ⟨z0, hz0⟩ : ∃ z0 : Int, z0 = if d0 = 0 then 1 else 0 := ⟨_, rfl⟩
  have HZs : Hid (∀ W, Calls Try.prog 41 #[.int .u64 d0] W fun e w' => e = .returned (.int .u64 z0) ∧ w' = W) := fun W => zero_still d0 hdb.1 (by omega) z0 hz0 W
  have hs3 : (hlen h : Int) ≤ ((em.length - (1 + hlen h) : Nat) : Int) := by omega
  have hs4 : ((em.length - (1 + hlen h) : Nat) : Int) ≤ ((c3 - (1 + hlen h) : Nat) : Int) := by omega
  have hs5 : (hlen h : Int) ≤ ((c3 - (1 + hlen h) : Nat) : Int) := by omega
  have HD0 := Lib.hid hd0e
  have HZ0 := Lib.hid hz0
  clear hd0e hz0 hdb
  go_still_tail 10, (by kernel_rfl)
  still_call (HZs.out _)
  repeat still_step
  refine wpStill_nil ?_
  change wpList _ _ _ _ _ w9.drew
  have HRO10 : Hid (Row w9.drew g D) := HRO9.out.same rfl
  have HB10 : Hid (Below w.heap.size w w9.drew) := HB9.out.drew
  have HC10 : Hid (Kd.C (Kd.int .u8) w9.drew Ao (hlen h) (hsum h label)) := by
    exact Kd.C_drew HV9.out.2.2
  have HVc : Hid (hlen h ≤ co) := HV9.out.2.1
  clear HRO9 HB9 HV9 hd0
  generalize w9.drew = w10 at HRO10 HB10 HC10 ⊢
  go_wp2_with fail
  obtain ⟨R, hR⟩ : ∃ R : Int, R = if (D.drop (1 + hlen h)).take (hlen h) = hsum h label then 1 else 0 := ⟨_, rfl⟩
  have hla : ((D.drop (1 + hlen h)).take (hlen h)).length = hlen h := by rw [List.length_take, List.length_drop, HL2.out]; omega
  have hEq := equal_nil (some ⟨g, 1 + hlen h, none⟩) (c3 - (1 + hlen h)) ((D.drop (1 + hlen h)).take (hlen h)) Ao co (hsum h label) w10 (by rw [hla]; exact HRO10.out.C _ _ (by rw [HL2.out]; omega) (by rw [HL2.out]; omega)) (by omega) (by rw [hsum_length]; exact HC10.out) (by rw [hsum_length]; exact HVc.out) (by rw [hla, hsum_length]) (by have := hlen_le h; omega)
    (inB_take (inB_drop HI2.out _) _) (hsum_in h hh label hb1) R hR
  rw [hla, hsum_length] at hEq
  refine hEq.mono ?_
  rintro e w11 ⟨rfl, hb11⟩
  have HRO11 : Hid (Row w11 g D) := HRO10.out.same (hb11.block _ (HRO10.out.lt (by rw [HL2.out]; exact hN0)))
  have HB11 : Hid (Below w.heap.size w w11) := HB10.out.trans (hb11.mono HB10.out.size)
  have hok : Go.bits .and .u64 z0 R = okL h label em := by
    have hz : z0 = if D.getD 0 0 = 0 then 1 else 0 := by rw [HZ0.out, HD0.out]
    rw [hz, hR, okL, ← HD.out]
    by_cases e1 : D.getD 0 0 = 0 <;> by_cases e2 : (D.drop (1 + hlen h)).take (hlen h) = hsum h label
    · rw [if_pos e1, if_pos e2, if_pos ⟨e1, e2⟩]; decide
    · rw [if_pos e1, if_neg e2, if_neg (fun x => e2 x.2)]; decide
    · rw [if_neg e1, if_pos e2, if_neg (fun x => e1 x.1)]; decide
    · rw [if_neg e1, if_neg e2, if_neg (fun x => e1 x.1)]; decide
  obtain ⟨ok0, hok0⟩ : ∃ ok0, ok0 = okL h label em := ⟨_, rfl⟩
  rw [← hok0] at hok
  have HOK := Lib.hid hok
  have HOK0 := Lib.hid hok0
  clear hok hok0 hb11 hEq hla hR HRO10 HB10 HC10
  go_wp2_with fail
  refine (HSp.out _ _).mono ?_
  rintro e w12 ⟨rfl, hb12⟩
  have HRO12 : Hid (Row w12 g D) := HRO11.out.same (hb12.block _ (HRO11.out.lt (by rw [HL2.out]; exact hN0)))
  have HB12 : Hid (Below w.heap.size w w12) := HB11.out.trans (hb12.mono HB11.out.size)
  clear hb12 HRO11 HB11
  go_wp2_with fail
  obtain ⟨db, hdb⟩ : ∃ db, db = D.drop (1 + hlen h) := ⟨_, rfl⟩
  have hdbl : db.length = em.length - (1 + hlen h) := by rw [hdb, List.length_drop, HL2.out]
  go_loopw [15, 16, 17, 18] (fun o a f i wr => ∃ I : Nat, (hlen h ≤ I ∧ I ≤ db.length) ∧ i = .int .i64 (I : Int) ∧ o = .int .u64 (scan ok0 db (hlen h) (I - hlen h)).1 ∧ a = .int .u64 ((scan ok0 db (hlen h) (I - hlen h)).2.1 : Nat) ∧ f = .int .u64 (scan ok0 db (hlen h) (I - hlen h)).2.2 ∧ Hid (Row wr g D) ∧ Hid (Below w.heap.size w wr))
    (fun _ _ _ i _ => db.length - (intOf i).toNat)
  case atStart => exact ⟨hlen h, ⟨by omega, by omega⟩, rfl, by rw [HOK.out, Nat.sub_self]; rfl, by rw [Nat.sub_self]; rfl, by rw [Nat.sub_self]; rfl, HRO12, HB12⟩
  case round =>
    obtain ⟨I, ⟨hI2, hI3⟩, rfl, rfl, rfl, rfl, hro, hbw⟩ := hrel
    obtain ⟨k, hkI⟩ : ∃ k, k = I - hlen h := ⟨_, rfl⟩
    rw [← hkI]
    have hok01 : ok0 = 0 ∨ ok0 = 1 := by
      rw [HOK0.out, okL]
      split
      · exact .inr rfl
      · exact .inl rfl
    obtain ⟨hso, hsa, hsf, hsl⟩ := scan_in ok0 hok01 db (hlen h) k
    obtain ⟨o, ho⟩ : ∃ o, o = (scan ok0 db (hlen h) k).1 := ⟨_, rfl⟩
    obtain ⟨a, ha⟩ : ∃ a, a = (scan ok0 db (hlen h) k).2.1 := ⟨_, rfl⟩
    obtain ⟨f, hf⟩ : ∃ f, f = (scan ok0 db (hlen h) k).2.2 := ⟨_, rfl⟩
    rw [← ho] at hso ⊢
    rw [← ha] at hsa ⊢
    rw [← hf] at hsf ⊢
    rw [← ha, ← hf] at hsl
    have hI : I = hlen h + k := by omega
    rw [← hI] at hsa
    by_cases hlt : I < db.length
    · obtain ⟨x, hxe⟩ : ∃ x, x = db.getD I 0 := ⟨_, rfl⟩
      have hxb : 0 ≤ x ∧ x < 256 := by
        rw [hxe, List.getD_eq_getElem?_getD, List.getElem?_eq_getElem (by omega)]
        exact (by rw [hdb]; exact inB_drop HI2.out _ : inB 8 db) _ (List.getElem_mem _)
      have hcell : wr.cell? ⟨g, 1 + hlen h + I, none⟩ = some (.int .u8 x) := by
        rw [hro.out.cell _ (by rw [HL2.out]; omega), hxe, hdb]
        simp [List.getD_eq_getElem?_getD]
      have hw : IntKind.u64.wrap x = x := by rw [IntKind.wrap_u64]; omega
      have hwI : IntKind.u64.wrap (I : Int) = (I : Int) := by rw [IntKind.wrap_u64]; omega
      have hI1 : (I : Int) < ((em.length - (1 + hlen h) : Nat) : Int) := by omega
      have hI0 : (0 : Int) ≤ (I : Int) := by omega
      have hnext : scan ok0 db (hlen h) (k + 1) = if x ≠ 0 ∧ f = 0 then (if x = 1 then o else 0, I, 1) else (o, a, f) := by
        rw [scan, ← hI, ← hxe, ← ho, ← hf]
        split
        · rfl
        · rw [ho, ha, hf]
      have HNX := Lib.hid hnext
      clear hnext
      obtain ⟨z, hz⟩ : ∃ z : Int, z = if x = 0 then 1 else 0 := ⟨_, rfl⟩
      have HZs2 : Hid (∀ W, Calls Try.prog 41 #[.int .u64 x] W fun e w' => e = .returned (.int .u64 z) ∧ w' = W) := fun W => zero_still x hxb.1 (by omega) z hz W
      obtain ⟨hr, hre⟩ : ∃ hr : Int, hr = if x ≠ 0 ∧ f = 0 then 1 else 0 := ⟨_, rfl⟩
      have hhr : Go.bits .andNot .u64 (Go.bits .xor .u64 1 z) f = hr := by
        rw [hz, hre]
        by_cases e1 : x = 0 <;> rcases hsf with e2 | e2
        · rw [if_pos e1, if_neg (fun y => y.1 e1), e2]; decide
        · rw [if_pos e1, if_neg (fun y => y.1 e1), e2]; decide
        · rw [if_neg e1, if_pos ⟨e1, e2⟩, e2]; decide
        · rw [if_neg e1, if_neg (fun y => by rw [e2] at y; exact absurd y.2 (by decide)), e2]; decide
      have hr01 : hr = 0 ∨ hr = 1 := by
        rw [hre]
        split
        · exact .inr rfl
        · exact .inl rfl
      have hs1 : word_Select.f hr (I : Int) (a : Int) = some (((if hr = 1 then I else a : Nat)) : Int) := select_val hr hr01 I a (by omega) (by omega)
      obtain ⟨a', ha'⟩ : ∃ a' : Nat, a' = if hr = 1 then I else a := ⟨_, rfl⟩
      rw [← ha'] at hs1
      obtain ⟨eq1, heq1⟩ : ∃ eq1 : Int, eq1 = if x = 1 then 1 else 0 := ⟨_, rfl⟩
      have hq1 : word_Equal.f x 1 = some eq1 := by rw [heq1]; exact equal_val x hxb.1 hxb.2
      have he01 : ∃ m : Nat, eq1 = (m : Int) ∧ m ≤ 1 := by
        rw [heq1]
        split
        · exact ⟨1, rfl, by omega⟩
        · exact ⟨0, rfl, by omega⟩
      obtain ⟨sl, hsl2⟩ : ∃ sl : Int, sl = if hr = 1 then eq1 else 1 := ⟨_, rfl⟩
      have hs2 : word_Select.f hr eq1 1 = some sl := by
        obtain ⟨m, hm1, hm2⟩ := he01
        have h9 := select_val hr hr01 m 1 (by omega) (by omega)
        rw [hsl2, hm1]
        refine h9.trans ?_
        congr 1
        by_cases e : hr = 1
        · rw [if_pos e, if_pos e]
        · rw [if_neg e, if_neg e]; rfl
      have hand : Go.bits .and .u64 o sl = (if x ≠ 0 ∧ f = 0 then (if x = 1 then o else 0) else o) := by
        rw [hsl2, hre, heq1]
        by_cases e1 : x ≠ 0 ∧ f = 0
        · rw [if_pos e1, if_pos e1, if_pos rfl]
          by_cases e3 : x = 1
          · rw [if_pos e3, if_pos e3]; rcases hso with e | e <;> rw [e] <;> decide
          · rw [if_neg e3, if_neg e3]; rcases hso with e | e <;> rw [e] <;> decide
        · rw [if_neg e1, if_neg e1, if_neg (by decide)]; rcases hso with e | e <;> rw [e] <;> decide
      have hor : Go.bits .or .u64 f hr = if x ≠ 0 ∧ f = 0 then 1 else f := by
        rw [hre]
        by_cases e1 : x ≠ 0 ∧ f = 0
        · rw [if_pos e1, if_pos e1, e1.2]; decide
        · rw [if_neg e1, if_neg e1]; rcases hsf with e | e <;> rw [e] <;> decide
      have hN2 : scan ok0 db (hlen h) (k + 1) = (Go.bits .and .u64 o sl, a', Go.bits .or .u64 f hr) := by
        rw [HNX.out, hand, hor, ha', hre]
        by_cases e1 : x ≠ 0 ∧ f = 0
        · rw [if_pos e1, if_pos e1, if_pos e1, if_pos e1, if_pos rfl]
        · rw [if_neg e1, if_neg e1, if_neg e1, if_neg e1, if_neg (by decide)]
      have hk1 : I + 1 - hlen h = k + 1 := by omega
      rw [← hk1] at hN2
      have HN2 := Lib.hid hN2
      have HII : Hid (hlen h ≤ I + 1 ∧ I + 1 ≤ db.length) := ⟨by omega, by omega⟩
      have HS1 : Hid (∀ W, Calls Try.prog 44 #[.int .u64 hr, .int .u64 (I : Int), .int .u64 (a : Int)] W fun e w' => e = .returned (.int .u64 (a' : Int)) ∧ Drawn0 W w') := fun W => word_Select.calls _ _ _ _ W hs1
      have HS2 : Hid (∀ W, Calls Try.prog 44 #[.int .u64 hr, .int .u64 eq1, .int .u64 1] W fun e w' => e = .returned (.int .u64 sl) ∧ Drawn0 W w') := fun W => word_Select.calls _ _ _ _ W hs2
      have HQ1 : Hid (∀ W, Calls Try.prog 45 #[.int .u64 x, .int .u64 1] W fun e w' => e = .returned (.int .u64 eq1) ∧ Drawn0 W w') := fun W => word_Equal.calls _ _ _ W hq1
      have HHR := Lib.hid hhr
      clear hsl ho ha hf hxe hI hkI hz hre hhr hr01 hs1 ha' heq1 hq1 he01 hsl2 hs2 hand hor hN2 hk1 hso hsf HNX
      go_wp2_with fail
      refine (HZs2.out _).mono ?_
      rintro e w13 ⟨rfl, rfl⟩
      go_wp2_with fail
      rw [HHR.out]
      refine (HS1.out _).mono ?_
      rintro e w14 ⟨rfl, hd14⟩
      have HRO14 : Hid (Row w14 g D) := hro.out.same (hd14.below.block _ (hro.out.lt (by rw [HL2.out]; exact hN0)))
      have hcell14 : w14.cell? ⟨g, 1 + hlen h + I, none⟩ = some (.int .u8 x) := (hd14.below.cell (p := ⟨g, 1 + hlen h + I, none⟩) (World.block_lt_of_cell? _ _ hcell)).trans hcell
      have HB14 : Hid (Below w.heap.size w w14) := hbw.out.trans (hd14.below.mono hbw.out.size)
      clear hd14 hcell
      go_wp2_with fail
      refine (HQ1.out _).mono ?_
      rintro e w15 ⟨rfl, hd15⟩
      go_wp2_with fail
      refine (HS2.out _).mono ?_
      rintro e w16 ⟨rfl, hd16⟩
      have HRO16 : Hid (Row w16 g D) := (HRO14.out.same (hd15.below.block _ (HRO14.out.lt (by rw [HL2.out]; exact hN0)))).same (hd16.below.block _ (Nat.lt_of_lt_of_le (HRO14.out.lt (by rw [HL2.out]; exact hN0)) hd15.below.size))
      have HB15 : Below w.heap.size w w15 := HB14.out.trans (hd15.below.mono HB14.out.size)
      have HB16 : Hid (Below w.heap.size w w16) := HB15.trans (hd16.below.mono HB15.size)
      clear hd15 hd16 HB15
      go_wp2_with fail
      go_roundw
      case rel => exact ⟨I + 1, HII.out, by go_num, by rw [HN2.out], by rw [HN2.out], by rw [HN2.out], HRO16, HB16⟩
      case measure => simp [intOf]; omega
    · have hIe : I = db.length := by omega
      have hke : k = db.length - hlen h := by omega
      have hres : (r1, r2) = if o = 1 ∧ f = 1 then (db.drop (a + 1), 0) else ([], 230) := by
        rw [← hr, openL, ← HD.out, ← hdb, ← HOK0.out, ← hke, ← ho, ← ha, ← hf]
      have hal : a < db.length ∨ f = 0 := hsl.imp (fun x => by omega) id
      clear ho ha hf hI hkI hIe hke
      by_cases hof : o = 1 ∧ f = 1
      · rw [if_pos hof] at hres
        obtain ⟨rfl, rfl⟩ := hof
        cases hres
        have ha1 : a < db.length := hal.resolve_right (by decide)
        have q8 : IntKind.u64.wrap ((a : Int) + 1) = (a : Int) + 1 := by rw [IntKind.wrap_u64]; omega
        have q9 : (a : Int) + 1 ≤ ((em.length - (1 + hlen h) : Nat) : Int) := by omega
        have q10 : (0 : Int) ≤ (a : Int) + 1 := by omega
        have q11 : ((a : Int) + 1).toNat = a + 1 := by omega
        have hll : (db.drop (a + 1)).length = em.length - (1 + hlen h) - (a + 1) := by rw [List.length_drop, hdbl]
        have hld : db.drop (a + 1) = (D.drop (1 + hlen h + (a + 1))).take (em.length - (1 + hlen h) - (a + 1)) := by
          rw [hdb, List.drop_drop, List.take_of_length_le]
          rw [List.length_drop, HL2.out]
          omega
        have hCl2 : ∀ (A : Option Addr) (c : Nat), Kd.C (Kd.int .u8) wr A (db.drop (a + 1)).length (db.drop (a + 1)) → (db.drop (a + 1)).length ≤ c → Calls Try.prog 38 #[.slice A (em.length - (1 + hlen h) - (a + 1)) c] wr fun e w' => ∃ v0_ : Value, e = .returned v0_ ∧ Kd.R (Kd.int .u8) 5 w' wr.heap.size (fun _ => True) v0_ (db.drop (a + 1)) ∧ Below wr.heap.size wr w' := by
          intro A c hC hc
          have := slices_Clone_byte_byte.calls A c _ (db.drop (a + 1)) wr hC hc (by simp [slices_Clone_byte_byte.f]; omega)
          rw [hll] at this
          exact this.mono (by
            rintro e w' ⟨v, rfl, hv, hb⟩
            exact ⟨v, rfl, Kd.R_mono hv (fun _ _ => trivial), hb⟩)
        have HCl2 := Lib.hid hCl2
        have HLL := Lib.hid hll
        have HLD := Lib.hid hld
        clear hal hso hsf hsl hCl2 hll hld
        by_cases hcap : c3 - (1 + hlen h) = a + 1
        · have hlz : em.length - (1 + hlen h) - (a + 1) = 0 := by omega
          have hC0 : Kd.C (Kd.int .u8) wr (some ⟨g, 1 + hlen h, none⟩) (db.drop (a + 1)).length (db.drop (a + 1)) := by
            rw [HLD.out, hlz, List.take_zero]
            exact hro.out.C (1 + hlen h) 0 (by rw [HL2.out]; omega) (by rw [HL2.out]; omega)
          have q12 : (c3 - (1 + hlen h) = a + 1) = True := eq_true hcap
          have HC0 := Lib.hid hC0
          have HLz := Lib.hid hlz
          clear hC0 hlz
          go_wp2_with fail
          refine (HCl2.out _ _ HC0.out (by rw [HLL.out, HLz.out]; omega)).mono ?_
          rintro e w20 ⟨v20, rfl, hv20, hb20⟩
          have HR20 := Lib.hid (Kd.R_lower hv20 hbw.out.size)
          have HB20 := Lib.hid (hbw.out.trans (hb20.mono hbw.out.size))
          clear hv20 hb20
          go_wp2_with fail
          go_ret2
          exact ⟨v20, rfl, HR20.out, HB20.out⟩
        · have hC0 : Kd.C (Kd.int .u8) wr (some ⟨g, 1 + hlen h + (a + 1), none⟩) (db.drop (a + 1)).length (db.drop (a + 1)) := by
            rw [HLL.out, HLD.out]
            exact hro.out.C _ _ (by rw [HL2.out]; omega) (by rw [HL2.out]; omega)
          have q12 : (c3 - (1 + hlen h) = a + 1) = False := eq_false hcap
          have HC0 := Lib.hid hC0
          have HCP : Hid (em.length - (1 + hlen h) - (a + 1) ≤ c3 - (1 + hlen h) - (a + 1)) := by show _ ≤ _; omega
          clear hC0 hcap
          go_wp2_with fail
          refine (HCl2.out _ _ HC0.out (by rw [HLL.out]; exact HCP.out)).mono ?_
          rintro e w20 ⟨v20, rfl, hv20, hb20⟩
          have HR20 := Lib.hid (Kd.R_lower hv20 hbw.out.size)
          have HB20 := Lib.hid (hbw.out.trans (hb20.mono hbw.out.size))
          clear hv20 hb20
          go_wp2_with fail
          go_ret2
          exact ⟨v20, rfl, HR20.out, HB20.out⟩
      · rw [if_neg hof] at hres
        cases hres
        have hand0 : Go.bits .and .u64 o f = 0 := by
          rcases hso with e1 | e1 <;> rcases hsf with e2 | e2
          · rw [e1, e2]; decide
          · rw [e1, e2]; decide
          · rw [e1, e2]; decide
          · exact absurd ⟨e1, e2⟩ hof
        clear hal hso hsf hsl hof
        go_wp2_with fail
        go_ret2
        exact ⟨.slice none 0 0, rfl, Kd.R_nil _ _ _ _ _, hbw.out⟩

theorem decode_hash (h : Int) (hz : hash_Size.f h = some 0) (A1 : Option Addr) (c1 : Nat) (label : List Int) (A2 : Option Addr) (c2 : Nat) (em : List Int) (w : World) :
    Calls Try.prog 20 #[.pointer none, .int .i64 h, .slice A1 label.length c1, .slice A2 em.length c2] w fun e w' => e = .returned (.tuple #[.slice none 0 0, .int .i64 130]) ∧ Below w.heap.size w w' := by
  have hsz : Hid (∀ W, Calls Try.prog 29 #[.int .i64 h] W fun e w' => e = .returned (.int .i64 0) ∧ Below W.heap.size W w') := fun W => hash_Size.calls h _ W hz
  clear hz
  go_enter Try.func20, Try.ntmps20
  go_wp2_with fail
  refine (hsz.out _).mono ?_
  rintro e w2 ⟨rfl, hb2⟩
  have HB2 := Lib.hid hb2
  clear hb2
  go_wp2_with fail
  go_ret2
  exact ⟨rfl, HB2.out⟩
theorem decode_short (h : Int) (hh : h = 1 ∨ h = 2 ∨ h = 3) (A1 : Option Addr) (c1 : Nat) (label : List Int) (A2 : Option Addr) (c2 : Nat) (em : List Int) (w : World) (hm : em.length ≤ 140737488355328) (hbad : em.length < 2 * hlen h + 2 ∨ 1024 < em.length) :
    Calls Try.prog 20 #[.pointer none, .int .i64 h, .slice A1 label.length c1, .slice A2 em.length c2] w fun e w' => e = .returned (.tuple #[.slice none 0 0, .int .i64 230]) ∧ Below w.heap.size w w' := by
  have hsz : Hid (∀ W, Calls Try.prog 29 #[.int .i64 h] W fun e w' => e = .returned (.int .i64 (hlen h : Int)) ∧ Below W.heap.size W w') := fun W => hash_Size.calls h _ W (size_at h hh)
  have hl0 : ((hlen h : Int) == 0) = false := by have := hlen_pos h; simp; omega
  have hw1 : IntKind.i64.wrap (2 * (hlen h : Int)) = 2 * (hlen h : Int) := by have := hlen_le h; rw [IntKind.wrap_i64]; omega
  have hw2 : IntKind.i64.wrap (2 * (hlen h : Int) + 2) = 2 * (hlen h : Int) + 2 := by have := hlen_le h; rw [IntKind.wrap_i64]; omega
  go_enter Try.func20, Try.ntmps20
  go_wp2_with fail
  refine (hsz.out _).mono ?_
  rintro e w2 ⟨rfl, hb2⟩
  have HB2 := Lib.hid hb2
  clear hb2
  by_cases h1 : em.length < 2 * hlen h + 2
  · have q1 : (em.length : Int) < 2 * (hlen h : Int) + 2 := by omega
    clear hbad h1
    go_wp2_with fail
    go_ret2
    exact ⟨rfl, HB2.out⟩
  · have q1 : ¬ (em.length : Int) < 2 * (hlen h : Int) + 2 := by omega
    have q2 : (1024 : Int) < (em.length : Int) := by omega
    clear hbad h1
    go_wp2_with fail
    go_ret2
    exact ⟨rfl, HB2.out⟩
theorem size_none (h : Int) (hh : ¬ (h = 1 ∨ h = 2 ∨ h = 3)) : hash_Size.f h = some 0 := by
  unfold hash_Size.f
  rw [if_neg (fun e => hh (.inl e)), if_neg (fun e => hh (.inr (.inl e))), if_neg (fun e => hh (.inr (.inr e)))]
def oaep_Decode.f (h : Int) (label em : List Int) : Option (List Int × Int) :=
  if inB 8 label ∧ inB 8 em ∧ label.length ≤ 100000 ∧ em.length ≤ 140737488355328 then
    (if h = 1 ∨ h = 2 ∨ h = 3 then (if em.length < 2 * hlen h + 2 ∨ 1024 < em.length then some ([], 230) else some (openL h label em)) else some ([], 130))
  else none
theorem oaep_Decode.calls (h : Int) (A1 : Option Addr) (c1 : Nat) (label : List Int) (A2 : Option Addr) (c2 : Nat) (em : List Int) (r1 : List Int) (r2 : Int) (w : World) (h1 : Kd.C (Kd.int .u8) w A1 label.length label) (hc1 : label.length ≤ c1) (h2 : Kd.C (Kd.int .u8) w A2 em.length em) (hc2 : em.length ≤ c2)
    (hf : oaep_Decode.f h label em = some (r1, r2)) :
    Calls Try.prog 20 #[.pointer none, .int .i64 h, .slice A1 label.length c1, .slice A2 em.length c2] w fun e w' => ∃ v0_ : Value, e = .returned (.tuple #[v0_, .int .i64 r2]) ∧ Kd.R (Kd.int .u8) 5 w' w.heap.size (fun _ => True) v0_ r1 ∧ Below w.heap.size w w' := by
  unfold oaep_Decode.f at hf
  split at hf
  case isFalse => cases hf
  rename_i hb
  by_cases hh : h = 1 ∨ h = 2 ∨ h = 3
  · rw [if_pos hh] at hf
    by_cases hs : em.length < 2 * hlen h + 2 ∨ 1024 < em.length
    · rw [if_pos hs] at hf
      cases hf
      exact (decode_short h hh A1 c1 label A2 c2 em w hb.2.2.2 hs).mono (by
        rintro e w' ⟨rfl, hb⟩
        exact ⟨_, rfl, Kd.R_nil _ _ _ _ _, hb⟩)
    · rw [if_neg hs] at hf
      exact decode_good h hh A1 c1 label A2 c2 em w h1 hc1 h2 hc2 hb.1 hb.2.1 hb.2.2.1 (by omega) (by omega) r1 r2 (Option.some.inj hf)
  · rw [if_neg hh] at hf
    cases hf
    exact (decode_hash h (size_none h hh) A1 c1 label A2 c2 em w).mono (by
      rintro e w' ⟨rfl, hb⟩
      exact ⟨_, rfl, Kd.R_nil _ _ _ _ _, hb⟩)
end Go.Proofs.Ytincnnmojgphmaa.H

set_option linter.unusedVariables false
set_option linter.unusedSimpArgs false
namespace Go.Proofs.Ytincnnmojgphmaa.H
open Go.RowKit Go.Proofs.YtincnnmojgphmaaW.PrintWords Go.Proofs.YtincnnmojgphmaaW.PrintLast Go.Proofs.Ytincnnmojgphmaa.Sha Go.Proofs.YtincnnmojgphmaaW.PrintMore Go.Proofs.Ytincnnmojgphmaa.PT
attribute [local go_sem] Oper.semAt_some

/-- A script that nothing was read of. -/
structure Scr (W : World) (sb : Nat) (l : List Int) : Prop where
  row : ∃ A c, W.heap[sb]? = some (.cells #[.slice A l.length c, .int .i64 0] 72 (0, 0)) ∧ l.length ≤ c ∧ Kd.C (Kd.int .u8) W A l.length l ∧ (∀ ad, A = some ad → ad.block ≠ sb)

set_option maxRecDepth 100000 in
theorem new_ok (A : Option Addr) (c : Nat) (l : List Int) (w : World) (hC : Kd.C (Kd.int .u8) w A l.length l) (hc : l.length ≤ c) (hl : l.length ≤ 140737488351232) :
    Calls Try.prog 25 #[.slice A l.length c] w fun e w' => ∃ sb, e = .returned (.pointer (some ⟨sb, 0, none⟩)) ∧ w.heap.size ≤ sb ∧ Scr w' sb l ∧ Below w.heap.size w w' ∧ sb < w'.heap.size := by
  have HCl : Hid (Calls Try.prog 38 #[.slice A l.length c] w fun e w' => ∃ v0_ : Value, e = .returned v0_ ∧ Kd.R (Kd.int .u8) 5 w' w.heap.size (fun _ => True) v0_ l ∧ Below w.heap.size w w') := by
    refine (slices_Clone_byte_byte.calls A c l l w hC hc (by simp [slices_Clone_byte_byte.f]; omega)).mono ?_
    rintro e w' ⟨v, rfl, hv, hb⟩
    exact ⟨v, rfl, Kd.R_mono hv (fun _ _ => trivial), hb⟩
  go_enter Try.func25, Try.ntmps25
  go_wp2_with fail
  refine HCl.out.mono ?_
  rintro e w2 ⟨v, rfl, hv, hb2⟩
  obtain ⟨A2, c2, rfl⟩ := Kd.R_slice hv
  have hr := Kd.R_reads' hv
  have hbl : ∀ ad, A2 = some ad → ad.block < w2.heap.size := by
    intro ad e
    subst e
    have := hv.2
    obtain ⟨inner, ho, _⟩ := this
    rcases ho.2 with ⟨h0, _⟩ | ⟨g, cap, cur, hvv, _, hg, _⟩
    · cases h0
    · cases hvv
      exact (Array.getElem?_eq_some_iff.1 hg).1
  have HR := Lib.hid hr
  have HB2 := Lib.hid hb2
  have HBL := Lib.hid hbl
  clear hv hr hb2 hbl
  go_wp2_with fail
  go_ret
  have hnew : (w2.alloc (.cells #[.slice A2 l.length c2, .int .i64 0] 72)).heap[w2.heap.size]? = some (.cells #[.slice A2 l.length c2, .int .i64 0] 72 (0, 0)) := World.alloc_heap_new _ _
  refine ⟨w2.heap.size, rfl, HB2.out.size, ⟨A2, c2, hnew, HR.out.2.1, Kd.C_alloc HR.out.2.2 _, fun ad e => by have := HBL.out ad e; omega⟩, HB2.out.alloc HB2.out.size _, by simp⟩
theorem left_ok (sb : Nat) (A : Option Addr) (n c : Nat) (at_ : Int) (W : World) (hb : W.heap[sb]? = some (.cells #[.slice A n c, .int .i64 at_] 72 (0, 0))) :
    Calls Try.prog 62 #[.pointer (some ⟨sb, 0, none⟩)] W fun e w' => e = .returned (.int .i64 (wrap64 ((n : Int) - at_))) ∧ Drawn0 W w' := by
  have c0 : W.cell? ⟨sb, 0, none⟩ = some (.slice A n c) := blk_cell hb 0
  have c1 : W.cell? ⟨sb, 1, none⟩ = some (.int .i64 at_) := blk_cell hb 1
  clear hb
  go_enter Try.func62, Try.ntmps62
  go_wp2_with fail
  go_quiet (fail)
  go_wp2_with fail
  go_ret
  exact ⟨rfl, ⟨⟨_, rfl⟩⟩⟩
theorem spend_ok (sb : Nat) (A : Option Addr) (n c : Nat) (at_ : Int) (W : World) (hb : W.heap[sb]? = some (.cells #[.slice A n c, .int .i64 at_] 72 (0, 0))) :
    Calls Try.prog 63 #[.pointer (some ⟨sb, 0, none⟩)] W fun e w' => (∃ v, e = .returned v) ∧ Away (fun k => k = sb) W w' := by
  have c0 : W.cell? ⟨sb, 0, none⟩ = some (.slice A n c) := blk_cell hb 0
  have c1 : W.cell? ⟨sb, 1, none⟩ = some (.int .i64 at_) := blk_cell hb 1
  have f1 : W.frozen? ⟨sb, 1, none⟩ = false := blk_frozen hb 1
  clear hb
  go_enter Try.func63, Try.ntmps63
  go_wp2_with fail
  go_end0
  exact ⟨⟨_, rfl⟩, (Away.refl (fun k => k = sb) W).setCell (p := ⟨sb, 1, none⟩) (Or.inl rfl) _⟩
set_option maxRecDepth 100000 in
set_option maxHeartbeats 2000000 in
theorem read_ok (sb : Nat) (l : List Int) (W : World) (hs : Scr W sb l) (n : Nat) (hn0 : 0 < n) (hn : n ≤ 100) (hm : l.length ≤ 100000) (hlt : n ≤ l.length) :
    Calls Try.prog 46 #[.pointer (some ⟨sb, 0, none⟩), .int .i64 (n : Int)] W fun e w' => ∃ v, e = .returned (.tuple #[v, .int .i64 0]) ∧ Kd.R (Kd.int .u8) 5 w' W.heap.size (fun _ => True) v (l.take n) ∧ Away (fun k => k = sb) W w' := by
  obtain ⟨A, c, hb, hc, hC, hA⟩ := hs.row
  have hLe : Hid (Calls Try.prog 62 #[.pointer (some ⟨sb, 0, none⟩)] W fun e w' => e = .returned (.int .i64 (l.length : Int)) ∧ Drawn0 W w') := by
    have := left_ok sb A l.length c 0 W hb
    rw [show wrap64 ((l.length : Int) - 0) = (l.length : Int) by unfold wrap64; omega] at this
    exact this
  have h1 : ¬ (n : Int) < 0 := by omega
  have h2 : ¬ (l.length : Int) < (n : Int) := by omega
  have h3 : ¬ (n : Int) = 0 := by omega
  obtain ⟨ad, rfl, hrd⟩ := (Kd.reads_of_C (d := (0 : Int)) hC).2.2 (by omega)
  have hadl : Hid (ad.block < W.heap.size) := by
    have := World.block_lt_of_cell? W _ (hrd 0 (by omega))
    rw [addr_block] at this
    exact this
  clear hrd
  have HB := Lib.hid hb
  have HC := Lib.hid hC
  have HAd : Hid (ad.block ≠ sb) := hA ad rfl
  clear hb hC hA hs
  go_enter Try.func46, Try.ntmps46
  go_wp2_with fail
  refine hLe.out.mono ?_
  rintro e w2 ⟨rfl, hd2⟩
  have hb2 : w2.heap[sb]? = some (.cells #[.slice (some ad) l.length c, .int .i64 0] 72 (0, 0)) := (hd2.below.block _ (Array.getElem?_eq_some_iff.1 HB.out).1).trans HB.out
  have c0 : w2.cell? ⟨sb, 0, none⟩ = some (.slice (some ad) l.length c) := blk_cell hb2 0
  have c1 : w2.cell? ⟨sb, 1, none⟩ = some (.int .i64 0) := blk_cell hb2 1
  have f1 : w2.frozen? ⟨sb, 1, none⟩ = false := blk_frozen hb2 1
  have HB2 : Hid (Below W.heap.size W w2) := hd2.below
  have HBK := Lib.hid hb2
  clear hd2 hb2
  have hw0 : IntKind.i64.wrap (0 + (n : Int)) = (n : Int) := by rw [IntKind.wrap_i64]; omega
  have hw1 : wrap64 (n : Int) = (n : Int) := by unfold wrap64; omega
  go_wp2_with fail
  obtain ⟨w3, hw3⟩ : ∃ w3, w3 = w2.setCell ⟨sb, 1, none⟩ (.int .i64 (n : Int)) := ⟨_, rfl⟩
  rw [← hw3]
  have hb3 : w3.heap[sb]? = some (.cells #[.slice (some ad) l.length c, .int .i64 (n : Int)] 72 (0, 0)) := by rw [hw3]; exact blk_set HBK.out 1 _
  have ha3 : Away (fun k => k = sb) W w3 := by rw [hw3]; exact (Away.of_below (S := fun k => k = sb) HB2.out).setCell (p := ⟨sb, 1, none⟩) (Or.inl rfl) _
  have hC3 : Kd.C (Kd.int .u8) w3 (some ad) l.length l := C_blk HC.out (fun ad' e => by
    cases e
    exact ha3.block _ hadl.out HAd.out)
  have c0' : w3.cell? ⟨sb, 0, none⟩ = some (.slice (some ad) l.length c) := blk_cell hb3 0
  have c1' : w3.cell? ⟨sb, 1, none⟩ = some (.int .i64 (n : Int)) := blk_cell hb3 1
  have HA3 := Lib.hid ha3
  have HC3 := Lib.hid hC3
  have q1 : (n : Int) ≤ (c : Int) := by omega
  have q2 : wrap64 ((n : Int) - (n : Int)) = 0 := by rw [Int.sub_self]; unfold wrap64; omega
  have q4 : wrap64 0 = 0 := by unfold wrap64; omega
  have q5 : IntKind.i64.wrap 0 = 0 := by decide
  have q3 : IntKind.i64.wrap ((n : Int) - (n : Int)) = 0 := by rw [Int.sub_self]; decide
  clear hw3 hb3 ha3 hC3 c0 c1 f1 HBK
  go_still_tail 15, (by kernel_rfl)
  change wpList _ _ _ _ _ w3.drew
  have HCt : Hid (Calls Try.prog 38 #[.slice (some ad) n c] w3.drew fun e w' => ∃ v0_ : Value, e = .returned v0_ ∧ Kd.R (Kd.int .u8) 5 w' w3.drew.heap.size (fun _ => True) v0_ (l.take n) ∧ Below w3.drew.heap.size w3.drew w') := by
    have hlt2 : (l.take n).length = n := by rw [List.length_take]; omega
    have hct := Kd.C_take (Kd.C_drew HC3.out) hlt
    have := slices_Clone_byte_byte.calls (some ad) c (l.take n) (l.take n) w3.drew hct (by omega) (by simp [slices_Clone_byte_byte.f]; omega)
    rw [hlt2] at this
    exact this.mono (by
      rintro e w' ⟨v, rfl, hv, hb⟩
      exact ⟨v, rfl, Kd.R_mono hv (fun _ _ => trivial), hb⟩)
  have HA4 : Hid (Away (fun k => k = sb) W w3.drew) := ⟨HA3.out.size, HA3.out.os, HA3.out.tape, HA3.out.output, HA3.out.block⟩
  clear HC3 c0' c1'
  generalize w3.drew = w4 at HCt HA4 ⊢
  go_wp2_with fail
  refine HCt.out.mono ?_
  rintro e w5 ⟨v5, rfl, hv5, hb5⟩
  have HV5 := Lib.hid (Kd.R_lower hv5 HA4.out.size)
  have HA5 : Hid (Away (fun k => k = sb) W w5) := HA4.out.trans (Away.of_below hb5)
  clear hv5 hb5
  go_wp2_with fail
  go_ret2
  exact ⟨v5, rfl, HV5.out, HA5.out⟩
theorem read_short (sb : Nat) (l : List Int) (W : World) (hs : Scr W sb l) (n : Nat) (hn : n ≤ 100) (hm : l.length ≤ 100000) (hlt : l.length < n) :
    Calls Try.prog 46 #[.pointer (some ⟨sb, 0, none⟩), .int .i64 (n : Int)] W fun e w' => e = .returned (.tuple #[.slice none 0 0, .int .i64 150]) ∧ Away (fun k => k = sb) W w' := by
  obtain ⟨A, c, hb, hc, hC, hA⟩ := hs.row
  have hLe : Hid (Calls Try.prog 62 #[.pointer (some ⟨sb, 0, none⟩)] W fun e w' => e = .returned (.int .i64 (l.length : Int)) ∧ Drawn0 W w') := by
    have := left_ok sb A l.length c 0 W hb
    rw [show wrap64 ((l.length : Int) - 0) = (l.length : Int) by unfold wrap64; omega] at this
    exact this
  have h1 : ¬ (n : Int) < 0 := by omega
  have h2 : (l.length : Int) < (n : Int) := by omega
  have HB := Lib.hid hb
  clear hb hC hA hs
  go_enter Try.func46, Try.ntmps46
  go_wp2_with fail
  refine hLe.out.mono ?_
  rintro e w2 ⟨rfl, hd2⟩
  have HSp : Hid (Calls Try.prog 63 #[.pointer (some ⟨sb, 0, none⟩)] w2 fun e w' => (∃ v, e = .returned v) ∧ Away (fun k => k = sb) w2 w') :=
    spend_ok sb A l.length c 0 w2 ((hd2.below.block _ (Array.getElem?_eq_some_iff.1 HB.out).1).trans HB.out)
  have HB2 : Hid (Below W.heap.size W w2) := hd2.below
  clear hd2
  go_wp2_with fail
  refine HSp.out.mono ?_
  rintro e w3 ⟨⟨v3, rfl⟩, ha3⟩
  have HA3 := Lib.hid ha3
  clear ha3
  go_wp2_with fail
  go_ret2
  exact ⟨rfl, (Away.of_below HB2.out).trans HA3.out⟩
end Go.Proofs.Ytincnnmojgphmaa.H

set_option linter.unusedVariables false
set_option linter.unusedSimpArgs false
namespace Go.Proofs.Ytincnnmojgphmaa.H
open Go.RowKit Go.Proofs.YtincnnmojgphmaaW.PrintWords Go.Proofs.YtincnnmojgphmaaW.PrintLast Go.Proofs.Ytincnnmojgphmaa.Sha Go.Proofs.YtincnnmojgphmaaW.PrintMore Go.Proofs.Ytincnnmojgphmaa.PT Go.Proofs.Ytincnnmojgphmaa.PO
attribute [local go_sem] Oper.semAt_some

/-- What is padded, ahead of the masks; and behind them. -/
def rawL (h : Int) (label m : List Int) (k : Nat) (seed : List Int) : List Int := [0] ++ seed ++ hsum h label ++ List.replicate (k - 2 * hlen h - 2 - m.length) 0 ++ [1] ++ m
def encL (h : Int) (label m : List Int) (k : Nat) (seed : List Int) : List Int :=
  maskE h (maskE h (rawL h label m k seed) (1 + hlen h) (k - (1 + hlen h)) 1 (hlen h)) 1 (hlen h) (1 + hlen h) (k - (1 + hlen h))
theorem rawL_length (h : Int) (label m : List Int) (k : Nat) (seed : List Int) (hs : seed.length = hlen h) (hk : m.length + 2 * hlen h + 2 ≤ k) : (rawL h label m k seed).length = k := by
  simp [rawL, hsum_length, hs]
  omega
theorem room_at (h : Int) (hh : h = 1 ∨ h = 2 ∨ h = 3) (k : Nat) (hlo : 2 * hlen h + 2 ≤ k) (hhi : k ≤ 1024) : oaep_Room.f 3 h (k : Int) = some (((k - 2 * hlen h - 2 : Nat) : Int), 0) := by
  have h1 := hlen_pos h
  have h2 := hlen_le h
  unfold oaep_Room.f
  rw [size_at h hh, Option.bind_some, if_neg (by omega), if_neg (by omega), decide_eq_false (by omega)]
  simp only [oaep_Room.j0]
  rw [if_neg (by decide)]
  have e1 : wrap64 (2 * (hlen h : Int)) = 2 * (hlen h : Int) := by unfold wrap64; omega
  have e2 : wrap64 (2 * (hlen h : Int) + 2) = 2 * (hlen h : Int) + 2 := by unfold wrap64; omega
  have e3 : wrap64 ((k : Int) - 2 * (hlen h : Int)) = (k : Int) - 2 * (hlen h : Int) := by unfold wrap64; omega
  have e4 : wrap64 ((k : Int) - 2 * (hlen h : Int) - 2) = (k : Int) - 2 * (hlen h : Int) - 2 := by unfold wrap64; omega
  rw [e1, e2, e3, e4, if_neg (by omega)]
  congr 2
  omega

theorem make_full (m : Nat) (hm : m ≤ 140737488355328) (W : World) : (Instr.makeSlice 22 (.int .i64 (m : Int)) (.int .i64 (m : Int))).run Try.prog W = .ok (.slice (some ⟨W.heap.size, 0, none⟩) m m) (W.alloc (.cells (nums .u8 (List.replicate m 0)).toArray 5)) := by
  have hi : (Try.prog.info? 5).isSome = true := by kernel_rfl
  obtain ⟨i, hi⟩ := Option.isSome_iff_exists.1 hi
  have h3 := infoU8
  rw [hi] at h3
  simp only [Option.map_some, Option.some.injEq, Prod.mk.injEq] at h3
  have := run_make (P := Try.prog) W 22 5 i (.int .u8 0) Try.underlying22 hi h3.1 .i64 .i64 (m : Int) (m : Int) (by omega) (by omega) (by rw [h3.2.2]; omega) (by omega)
  rw [this, h3.2.1, ← made_nums]
  simp [Value.cells]
theorem Row.nums {W : World} {b : Nat} {T : TypeId} {xs : List Int} (h : W.heap[b]? = some (.cells (nums .u8 xs).toArray T (0, 0))) : Row W b xs :=
  Row.of_cells h (fun i hi => by simp [Go.Proofs.YtincnnmojgphmaaW.PrintWords.nums, List.getD_eq_getElem?_getD, List.getElem?_eq_getElem hi])
theorem C_nums {W : World} {b : Nat} {T : TypeId} {xs : List Int} (h : W.heap[b]? = some (.cells (nums .u8 xs).toArray T (0, 0))) (hm : xs.length ≤ 100000) : Kd.C (Kd.int .u8) W (some ⟨b, 0, none⟩) xs.length xs := by
  have := (Row.nums h).C 0 xs.length (by omega) hm
  rw [List.drop_zero, List.take_of_length_le (Nat.le_refl _)] at this
  exact this
theorem away_fresh {A B C : World} {sb g : Nat} (h : Away (fun k => k = sb) A B) (k : Away (fun k => k = g) B C) (hg : A.heap.size ≤ g) : Away (fun k => k = sb) A C :=
  ⟨Nat.le_trans h.size k.size, k.os.trans h.os, k.tape.trans h.tape, k.output.trans h.output, fun i hi hs => (k.block i (Nat.lt_of_lt_of_le hi h.size) (by show i ≠ g; omega)).trans (h.block i hi hs)⟩
theorem C_away {w W : World} {sb : Nat} {A : Option Addr} {n : Nat} {xs : List Int} (h : Kd.C (Kd.int .u8) w A n xs) (ha : Away (fun k => k = sb) w W) (hA : 0 < n → ∀ ad, A = some ad → ad.block ≠ sb) : Kd.C (Kd.int .u8) W A n xs := by
  have h1 := Kd.reads_of_C (d := (0 : Int)) h
  refine Kd.C_of_reads (d := (0 : Int)) (h1 := fun _ => rfl) ⟨h1.1, h1.2.1, fun hn => ?_⟩
  obtain ⟨ad, e, hc⟩ := h1.2.2 hn
  refine ⟨ad, e, fun j hj => ?_⟩
  have h2 := hc j hj
  have hlt := World.block_lt_of_cell? w _ h2
  rw [World.cell?_of_block (w := w) (w' := W) (ha.block _ hlt (by rw [addr_block]; exact hA hn ad e))]
  exact h2
set_option maxRecDepth 100000 in
set_option maxHeartbeats 4000000 in
theorem encode_good (h : Int) (hh : h = 1 ∨ h = 2 ∨ h = 3) (A1 : Option Addr) (c1 : Nat) (label : List Int) (A2 : Option Addr) (c2 : Nat) (m : List Int) (k sb : Nat) (b : List Int) (w : World) (h1 : Kd.C (Kd.int .u8) w A1 label.length label) (hc1 : label.length ≤ c1) (h2 : Kd.C (Kd.int .u8) w A2 m.length m) (hc2 : m.length ≤ c2)
    (hA1 : 0 < label.length → ∀ ad, A1 = some ad → ad.block ≠ sb) (hA2 : 0 < m.length → ∀ ad, A2 = some ad → ad.block ≠ sb)
    (hb1 : inB 8 label) (hbm : inB 8 m) (hbb : inB 8 b) (hm1 : label.length ≤ 100000) (hlo : m.length + 2 * hlen h + 2 ≤ k) (hhi : k ≤ 1024) (hscr : Scr w sb b) (hsl : sb < w.heap.size) (hbl : b.length ≤ 100000) (hlb : hlen h ≤ b.length) :
    Calls Try.prog 24 #[.int .i64 h, .slice A1 label.length c1, .slice A2 m.length c2, .int .i64 (k : Int), .pointer (some ⟨sb, 0, none⟩)] w fun e w' => ∃ g c, e = .returned (.tuple #[.slice (some ⟨g, 0, none⟩) k c, .int .i64 0]) ∧ k ≤ c ∧ w.heap.size ≤ g ∧ Row w' g (encL h label m k (b.take (hlen h))) ∧ Away (fun k => k = sb) w w' := by
  have hl1 := hlen_pos h
  have hl2 := hlen_le h
  have HRm : Hid (∀ W, Calls Try.prog 22 #[.int .i64 h, .int .i64 (k : Int)] W fun e w' => e = .returned (.tuple #[.int .i64 ((k - 2 * hlen h - 2 : Nat) : Int), .int .i64 0]) ∧ Below W.heap.size W w') := fun W => (oaep_Room.calls 3 h (k : Int) _ _ W (room_at h hh k (by omega) hhi))
  have HSz : Hid (∀ W, Calls Try.prog 29 #[.int .i64 h] W fun e w' => e = .returned (.int .i64 (hlen h : Int)) ∧ Below W.heap.size W w') := fun W => hash_Size.calls h _ W (size_at h hh)
  have HRd : Hid (∀ W, Below w.heap.size w W → Calls Try.prog 46 #[.pointer (some ⟨sb, 0, none⟩), .int .i64 (hlen h : Int)] W fun e w' => ∃ v, e = .returned (.tuple #[v, .int .i64 0]) ∧ Kd.R (Kd.int .u8) 5 w' W.heap.size (fun _ => True) v (b.take (hlen h)) ∧ Away (fun k => k = sb) W w') := by
    intro W hW
    obtain ⟨A, c, hb, hc, hC, hA⟩ := hscr.row
    have hs : Scr W sb b := ⟨⟨A, c, (hW.block _ hsl).trans hb, hc, C_same hC (fun i hi => hW.block i hi), hA⟩⟩
    exact read_ok sb b W hs (hlen h) (by omega) (by omega) hbl hlb
  have HSm : Hid (∀ (W1 : World), Away (fun k => k = sb) w W1 → Calls Try.prog 40 #[.int .i64 h, .slice A1 label.length c1] W1 fun e w' => ∃ v0_ : Value, e = .returned (.tuple #[v0_, .int .i64 0]) ∧ Kd.V (Kd.int .u8) 5 w' W1.heap.size (fun k_ => (W1.heap.size ≤ k_)) v0_ (hsum h label) ∧ Below W1.heap.size W1 w') :=
    fun W1 hb => hash_Sum.calls h A1 c1 label (hsum h label) 0 W1 (C_away h1 hb hA1) hc1 (sum_at h hh label hb1 (by omega))
  have HMk : Hid (∀ W, Calls Try.prog 39 #[.int .i64 h] W fun e w' => e = .returned (.func (.func 56) #[] #[.pointer (some ⟨W.heap.size, 0, none⟩)]) ∧ w' = W.alloc (.cells #[.int .i64 h] 3)) := fun W => (callsIn_wide (n := 8)).1 (masks_in 8 (by omega) h W)
  have HC2 : Hid (∀ W, Away (fun k => k = sb) w W → Kd.C (Kd.int .u8) W A2 m.length m) := fun W hW => C_away h2 hW hA2
  have HHI := Lib.hid hhi
  have q1 : ¬ ((k - 2 * hlen h - 2 : Nat) : Int) < (m.length : Int) := by omega
  clear h1 h2 hscr hA1 hA2
  obtain ⟨rm, hrm⟩ : ∃ rm, rm = k - 2 * hlen h - 2 := ⟨_, rfl⟩
  rw [← hrm] at HRm q1
  have HRM := Lib.hid hrm
  clear hrm
  go_enter Try.func24, Try.ntmps24
  go_wp2_with fail
  refine (HRm.out _).mono ?_
  rintro e w2 ⟨rfl, hb2⟩
  have HB2 := Lib.hid hb2
  clear hb2
  go_wp2_with fail
  refine (HSz.out _).mono ?_
  rintro e w3 ⟨rfl, hb3⟩
  have HB3 := Lib.hid (HB2.out.trans (hb3.mono HB2.out.size))
  clear hb3 HB2
  go_wp2_with fail
  refine (HRd.out _ HB3.out).mono ?_
  rintro e w4 ⟨v4, rfl, hv4, ha4⟩
  obtain ⟨As, cs, rfl⟩ := Kd.R_slice hv4
  have hR4 := Kd.R_reads' hv4
  have hsd : (b.take (hlen h)).length = hlen h := by rw [List.length_take]; omega
  rw [hsd] at hR4 ⊢
  have HR4 := Lib.hid hR4
  have HA4 : Hid (Away (fun k => k = sb) w w4) := (Away.of_below HB3.out).trans ha4
  clear hv4 hR4 ha4
  go_wp2_with fail
  refine (HSm.out _ HA4.out).mono ?_
  rintro e w5 ⟨v5, rfl, hv5, hb5⟩
  obtain ⟨Ao, co, rfl⟩ := Kd.V_slice hv5
  have hR5 := Kd.V_reads' hv5
  rw [hsum_length] at hR5 ⊢
  have HR5 := Lib.hid hR5
  have HA5 : Hid (Away (fun k => k = sb) w w5) := HA4.out.trans (Away.of_below hb5)
  have HCs5 : Hid (Kd.C (Kd.int .u8) w5 As (hlen h) (b.take (hlen h))) := C_same HR4.out.2.2 (fun i hi => hb5.block i hi)
  clear hv5 hR5 hb5
  go_wp2_with fail
  have hz1 : wrap64 ((rm : Int) - (m.length : Int)) = ((rm - m.length : Nat) : Int) := by have := HRM.out; unfold wrap64; omega
  rw [hz1, make_full _ (by have := HRM.out; omega)]
  obtain ⟨Z, hZ⟩ : ∃ Z, Z = rm - m.length := ⟨_, rfl⟩
  rw [← hZ]
  have HZ := Lib.hid hZ
  clear hz1 hZ
  go_wp2_with fail
  obtain ⟨sd, hsde⟩ : ∃ sd, sd = b.take (hlen h) := ⟨_, rfl⟩
  rw [← hsde] at hsd
  have HSDE := Lib.hid hsde
  obtain ⟨w6, hw6⟩ : ∃ w6, w6 = (((w5.alloc (.cells #[.int .u8 0] 5)).alloc (.cells (nums .u8 (List.replicate Z 0)).toArray 5)).alloc (.cells #[.int .u8 1] 5)) := ⟨_, rfl⟩
  have hz6 : w6.heap.size = w5.heap.size + 3 := by rw [hw6]; simp
  have hbel6 : Below w5.heap.size w5 w6 := by rw [hw6]; exact (((Below.refl _ w5).alloc (Nat.le_refl _) _).alloc (by simp) _).alloc (by simp; omega) _
  have r0 : Kd.C (Kd.int .u8) w6 (some ⟨w5.heap.size, 0, none⟩) ([0] : List Int).length [0] := C_nums (T := 5) (by
    rw [hw6]; simp only [heap_at, World.size_alloc]; rw [if_neg (by omega), if_neg (by omega), if_pos (by trivial)]; rfl) (by simp)
  have r3 : Kd.C (Kd.int .u8) w6 (some ⟨w5.heap.size + 1, 0, none⟩) (List.replicate Z (0 : Int)).length (List.replicate Z 0) := C_nums (T := 5) (by
    rw [hw6]; simp only [heap_at, World.size_alloc]; rw [if_neg (by omega), if_pos (by trivial)]) (by have := HZ.out; have := HRM.out; have := HHI.out; simp; omega)
  have r4 : Kd.C (Kd.int .u8) w6 (some ⟨w5.heap.size + 1 + 1, 0, none⟩) ([1] : List Int).length [1] := C_nums (T := 5) (by
    rw [hw6]; simp only [heap_at, World.size_alloc]; rw [if_pos (by trivial)]; rfl) (by simp)
  have r1 : Kd.C (Kd.int .u8) w6 As sd.length sd := by rw [hsd, hsde]; exact C_same HCs5.out (fun i hi => hbel6.block i hi)
  have r2 : Kd.C (Kd.int .u8) w6 Ao (hsum h label).length (hsum h label) := by rw [hsum_length]; exact C_same HR5.out.2.2 (fun i hi => hbel6.block i hi)
  have r5 : Kd.C (Kd.int .u8) w6 A2 m.length m := HC2.out _ (HA5.out.trans (Away.of_below hbel6))
  obtain ⟨xs, hxs⟩ : ∃ xs : List (Option Addr × Nat × List Int), xs = [(some ⟨w5.heap.size, 0, none⟩, 1, [0]), (As, cs, sd), (Ao, co, hsum h label), (some ⟨w5.heap.size + 1, 0, none⟩, Z, List.replicate Z 0), (some ⟨w5.heap.size + 1 + 1, 0, none⟩, 1, [1]), (A2, c2, m)] := ⟨_, rfl⟩
  have hcat : catL xs = rawL h label m k sd := by
    rw [hxs, rawL, show k - 2 * hlen h - 2 - m.length = Z by rw [HZ.out, HRM.out]]
    simp [catL]
  have hrl : (rawL h label m k sd).length = k := rawL_length h label m k sd hsd hlo
  have hbe : Below w6.heap.size w6 (w6.alloc (.cells (xs.map fun x => Value.slice x.1 x.2.2.length x.2.1).toArray 22)) := (Below.refl _ w6).alloc (Nat.le_refl _) _
  have hcg := concat_go w6.heap.size 22 xs (w6.alloc (.cells (xs.map fun x => Value.slice x.1 x.2.2.length x.2.1).toArray 22)) (by rw [hxs]; simp) (World.alloc_heap_new _ _)
    (fun x hx => by
      refine C_same (w := w6) ?_ (fun i hi => hbe.block i hi)
      rw [hxs] at hx
      simp only [List.mem_cons, List.not_mem_nil, or_false] at hx
      rcases hx with rfl | rfl | rfl | rfl | rfl | rfl
      · exact r0
      · exact r1
      · exact r2
      · exact r3
      · exact r4
      · exact r5) (by rw [hcat, hrl]; have := HHI.out; omega)
  rw [hcat] at hcg
  have hcells : (xs.map fun x => Value.slice x.1 x.2.2.length x.2.1).toArray = #[.slice (some ⟨w5.heap.size, 0, none⟩) 1 1, .slice As (hlen h) cs, .slice Ao (hlen h) co, .slice (some ⟨w5.heap.size + 1, 0, none⟩) Z Z, .slice (some ⟨w5.heap.size + 1 + 1, 0, none⟩) 1 1, .slice A2 m.length c2] := by
    rw [hxs]
    simp [hsd, hsum_length]
  rw [hcells, show xs.length = 6 by rw [hxs]; rfl, hz6] at hcg
  have HCG := Lib.hid hcg
  have HA6 : Hid (Away (fun k => k = sb) w (w6.alloc (.cells #[.slice (some ⟨w5.heap.size, 0, none⟩) 1 1, .slice As (hlen h) cs, .slice Ao (hlen h) co, .slice (some ⟨w5.heap.size + 1, 0, none⟩) Z Z, .slice (some ⟨w5.heap.size + 1 + 1, 0, none⟩) 1 1, .slice A2 m.length c2] 22))) := (HA5.out.trans (Away.of_below hbel6)).alloc _
  have HRL := Lib.hid hrl
  have HSZ6 : Hid (w.heap.size ≤ w6.heap.size) := Nat.le_trans HA5.out.size hbel6.size
  have HZ6 := Lib.hid hz6
  rw [← hw6]
  clear hcg hcat hbe hcells hxs r0 r1 r2 r3 r4 r5 hbel6 hw6 hrl hz6 hsde
  refine HCG.out.mono ?_
  rintro e w7 ⟨v7, rfl, hv7, hb7⟩
  obtain ⟨g, c7, rfl, hg0, hg1, hgc, hrow⟩ := Row.of_R hv7 (by rw [HRL.out]; omega)
  rw [HRL.out] at hgc ⊢
  have HA7 : Hid (Away (fun k => k = sb) w w7) := HA6.out.trans (Away.of_below hb7)
  have HROW := Lib.hid hrow
  have HG : Hid (w.heap.size ≤ g) := by
    have h1 := HSZ6.out
    have h2 := HZ6.out
    simp at hg0
    show _ ≤ _
    omega
  have HG1 := Lib.hid hg1
  clear hv7 hb7 hrow hg0 hg1
  go_wp2_with fail
  refine (HMk.out w7).mono ?_
  rintro e w8 ⟨rfl, hw8⟩
  obtain ⟨E0, hE0⟩ : ∃ E0, E0 = rawL h label m k sd := ⟨_, rfl⟩
  have hcell8 : w8.cell? ⟨w7.heap.size, 0, none⟩ = some (.int .i64 h) := by rw [hw8]; exact blk_cell (World.alloc_heap_new w7 _) 0
  have hrow8 : Row w8 g E0 := by rw [hE0]; exact HROW.out.same (by rw [hw8]; exact Below.heap_alloc _ _ _ HG1.out)
  have ha8 : Away (fun k => k = sb) w w8 := by rw [hw8]; exact HA7.out.alloc _
  have hl8 : E0.length = k := by rw [hE0]; exact HRL.out
  have hi8 : inB 8 E0 := by
    rw [hE0, rawL]
    refine inB_append (inB_append (inB_append (inB_append (inB_append ?_ ?_) (hsum_in h hh label hb1)) ?_) ?_) hbm
    · intro x hx; rw [List.mem_singleton] at hx; subst hx; decide
    · rw [HSDE.out]; exact inB_take hbb _
    · intro x hx; rw [List.eq_of_mem_replicate hx]; decide
    · intro x hx; rw [List.mem_singleton] at hx; subst hx; decide
  have HCE8 := Lib.hid hcell8
  have HRO8 := Lib.hid hrow8
  have HA8 := Lib.hid ha8
  have HL8 := Lib.hid hl8
  have HI8 := Lib.hid hi8
  have HE0 := Lib.hid hE0
  clear hcell8 hrow8 ha8 hl8 hi8 hE0 hw8 HROW HRL HA7 HCG HA6
  have hs0 : (0 : Int) ≤ (hlen h : Int) := by omega
  have hs2 : (k : Int) ≤ (c7 : Int) := by omega
  have hs1 : (1 : Int) + (hlen h : Int) ≤ (k : Int) := by omega
  have hw1 : IntKind.i64.wrap (1 + (hlen h : Int)) = 1 + (hlen h : Int) := by rw [IntKind.wrap_i64]; omega
  have t0 : (0 : Int) ≤ 1 + (hlen h : Int) := by omega
  have t1 : 1 + (hlen h : Int) ≤ (c7 : Int) := by omega
  have t2 : (1 : Int) ≤ max (1 + (hlen h : Int)) 0 := by omega
  have t3 : (1 : Int) ≤ 1 + (hlen h : Int) := by omega
  have t4 : (1 + (hlen h : Int)).toNat = 1 + hlen h := by omega
  have t5 : (1 + hlen h) - 1 = hlen h := by omega
  have t6 : (c7 = 1) = False := eq_false (by omega)
  have t7 : (c7 = 1 + hlen h) = False := eq_false (by omega)
  go_wp2_with fail
  go_still_tail 9, (by kernel_rfl)
  change wpList _ _ _ _ _ w8.drew
  have HCE9 : Hid (w8.drew.cell? ⟨w7.heap.size, 0, none⟩ = some (.int .i64 h)) := HCE8.out
  have HRO9 : Hid (Row w8.drew g E0) := HRO8.out.same rfl
  have HA9 : Hid (Away (fun k => k = sb) w w8.drew) := ⟨HA8.out.size, HA8.out.os, HA8.out.tape, HA8.out.output, HA8.out.block⟩
  clear HCE8 HRO8 HA8
  generalize w8.drew = w9 at HCE9 HRO9 HA9 ⊢
  go_wp2_with fail
  have hk0 : 0 < k := by omega
  refine (((callsIn_wide (n := 8)).1 (masks1_in 8 (by omega) h hh w7.heap.size w9 HCE9.out g E0 HI8.out HRO9.out (by rw [HL8.out]; have := HHI.out; omega) (by rw [HL8.out]; omega) (1 + hlen h) (k - (1 + hlen h)) (c7 - (1 + hlen h)) 1 (hlen h) (c7 - 1) (by rw [HL8.out]; omega) (by rw [HL8.out]; omega) (by omega) (by omega)))).mono ?_
  rintro e w10 ⟨⟨v10, rfl⟩, hrow10, haw10⟩
  obtain ⟨E1, hE1⟩ : ∃ E1, E1 = maskE h E0 (1 + hlen h) (k - (1 + hlen h)) 1 (hlen h) := ⟨_, rfl⟩
  rw [← hE1] at hrow10
  have hl10 : E1.length = k := by rw [hE1, maskE_length _ _ _ _ _ _ (by rw [HL8.out]; omega), HL8.out]
  have hi10 : inB 8 E1 := by rw [hE1]; exact maskE_in h hh _ HI8.out _ _ _ _
  have hcell10 : w10.cell? ⟨w7.heap.size, 0, none⟩ = some (.int .i64 h) := by
    rw [World.cell?_of_block (w := w9) (haw10.block _ (World.block_lt_of_cell? _ _ HCE9.out) (by have := HG1.out; show w7.heap.size ≠ g; omega))]
    exact HCE9.out
  have ha10 : Away (fun k => k = sb) w w10 := away_fresh HA9.out haw10 HG.out
  have HE1 := Lib.hid hE1
  have HCE10 := Lib.hid hcell10
  have HRO10 := Lib.hid hrow10
  have HA10 := Lib.hid ha10
  have HL10 := Lib.hid hl10
  have HI10 := Lib.hid hi10
  clear hE1 hl10 hi10 hcell10 hrow10 ha10 haw10 HCE9 HRO9 HA9
  go_wp2_with fail
  go_still_tail 9, (by kernel_rfl)
  change wpList _ _ _ _ _ w10.drew
  have HCE11 : Hid (w10.drew.cell? ⟨w7.heap.size, 0, none⟩ = some (.int .i64 h)) := HCE10.out
  have HRO11 : Hid (Row w10.drew g E1) := HRO10.out.same rfl
  have HA11 : Hid (Away (fun k => k = sb) w w10.drew) := ⟨HA10.out.size, HA10.out.os, HA10.out.tape, HA10.out.output, HA10.out.block⟩
  clear HCE10 HRO10 HA10
  generalize w10.drew = w11 at HCE11 HRO11 HA11 ⊢
  go_wp2_with fail
  refine (((callsIn_wide (n := 8)).1 (masks1_in 8 (by omega) h hh w7.heap.size w11 HCE11.out g E1 HI10.out HRO11.out (by rw [HL10.out]; have := HHI.out; omega) (by rw [HL10.out]; omega) 1 (hlen h) (c7 - 1) (1 + hlen h) (k - (1 + hlen h)) (c7 - (1 + hlen h)) (by rw [HL10.out]; omega) (by rw [HL10.out]; omega) (by omega) (by omega)))).mono ?_
  rintro e w12 ⟨⟨v12, rfl⟩, hrow12, haw12⟩
  have hfin : maskE h E1 1 (hlen h) (1 + hlen h) (k - (1 + hlen h)) = encL h label m k (b.take (hlen h)) := by rw [HE1.out, HE0.out, HSDE.out]; rfl
  rw [hfin] at hrow12
  have HRO12 := Lib.hid hrow12
  have HA12 : Hid (Away (fun k => k = sb) w w12) := away_fresh HA11.out haw12 HG.out
  clear hrow12 haw12 hfin
  go_wp2_with fail
  go_ret2
  exact ⟨g, c7, rfl, hgc, HG.out, HRO12.out, HA12.out⟩

def roomR (h k : Int) : Int × Int := if h = 1 ∨ h = 2 ∨ h = 3 then (if k < 0 ∨ 1024 < k then (0, 1) else if k < 2 * (hlen h : Int) + 2 then (0, 232) else (k - 2 * (hlen h : Int) - 2, 0)) else (0, 130)
theorem room_val (h k : Int) : oaep_Room.f 3 h k = some (roomR h k) := by
  have h2 := hlen_le h
  unfold oaep_Room.f roomR
  by_cases hh : h = 1 ∨ h = 2 ∨ h = 3
  · have h1 := hlen_pos h
    rw [size_at h hh, Option.bind_some, if_neg (by omega), if_pos hh]
    have e1 : wrap64 (2 * (hlen h : Int)) = 2 * (hlen h : Int) := by unfold wrap64; omega
    have e2 : wrap64 (2 * (hlen h : Int) + 2) = 2 * (hlen h : Int) + 2 := by unfold wrap64; omega
    have hj : ∀ (x1 x6 : Int) (x12 : Bool), oaep_Room.j0 3 x1 x6 x12 = if x12 = true then (some (0, 1)) else (if x1 < (wrap64 ((wrap64 (2 * x6)) + 2)) then (some (0, 232)) else (some (wrap64 ((wrap64 (x1 - (wrap64 (2 * x6)))) - 2), 0))) := fun _ _ _ => rfl
    rw [hj, hj, e1, e2]
    by_cases k0 : k < 0
    · rw [if_pos k0, if_pos rfl, if_pos (.inl k0)]
    · rw [if_neg k0]
      by_cases k1 : 1024 < k
      · rw [if_pos (decide_eq_true k1), if_pos (.inr k1)]
      · have e3 : wrap64 (k - 2 * (hlen h : Int)) = k - 2 * (hlen h : Int) := by unfold wrap64; omega
        have e4 : wrap64 (k - 2 * (hlen h : Int) - 2) = k - 2 * (hlen h : Int) - 2 := by unfold wrap64; omega
        have kk : ¬ (k < 0 ∨ 1024 < k) := by omega
        have kd : ¬ (decide (k > 1024) = true) := by simpa using k1
        rw [e3, e4, if_neg kd, if_neg kk]
        by_cases k2 : k < 2 * (hlen h : Int) + 2
        · rw [if_pos k2, if_pos k2]
        · rw [if_neg k2, if_neg k2]
  · rw [size_none h hh, Option.bind_some, if_pos rfl, if_neg hh]
theorem encode_room (h k e : Int) (he : e ≠ 0) (hr : roomR h k = (0, e)) (A1 : Option Addr) (c1 : Nat) (label : List Int) (A2 : Option Addr) (c2 : Nat) (m : List Int) (sb : Nat) (w : World) :
    Calls Try.prog 24 #[.int .i64 h, .slice A1 label.length c1, .slice A2 m.length c2, .int .i64 k, .pointer (some ⟨sb, 0, none⟩)] w fun e' w' => e' = .returned (.tuple #[.slice none 0 0, .int .i64 e]) ∧ Below w.heap.size w w' := by
  have HRm : Hid (∀ W, Calls Try.prog 22 #[.int .i64 h, .int .i64 k] W fun e' w' => e' = .returned (.tuple #[.int .i64 0, .int .i64 e]) ∧ Below W.heap.size W w') := fun W => (oaep_Room.calls 3 h k _ _ W (by rw [room_val, hr]))
  have q : (e != 0) = true := by simpa using he
  clear hr
  go_enter Try.func24, Try.ntmps24
  go_wp2_with fail
  refine (HRm.out _).mono ?_
  rintro e' w2 ⟨rfl, hb2⟩
  have HB2 := Lib.hid hb2
  clear hb2
  go_wp2_with fail
  go_ret2
  exact ⟨rfl, HB2.out⟩
theorem encode_msg (h k rm : Int) (hr : roomR h k = (rm, 0)) (A1 : Option Addr) (c1 : Nat) (label : List Int) (A2 : Option Addr) (c2 : Nat) (m : List Int) (hm : rm < (m.length : Int)) (sb : Nat) (w : World) :
    Calls Try.prog 24 #[.int .i64 h, .slice A1 label.length c1, .slice A2 m.length c2, .int .i64 k, .pointer (some ⟨sb, 0, none⟩)] w fun e' w' => e' = .returned (.tuple #[.slice none 0 0, .int .i64 231]) ∧ Below w.heap.size w w' := by
  have HRm : Hid (∀ W, Calls Try.prog 22 #[.int .i64 h, .int .i64 k] W fun e' w' => e' = .returned (.tuple #[.int .i64 rm, .int .i64 0]) ∧ Below W.heap.size W w') := fun W => (oaep_Room.calls 3 h k _ _ W (by rw [room_val, hr]))
  clear hr
  go_enter Try.func24, Try.ntmps24
  go_wp2_with fail
  refine (HRm.out _).mono ?_
  rintro e' w2 ⟨rfl, hb2⟩
  have HB2 := Lib.hid hb2
  clear hb2
  go_wp2_with fail
  go_ret2
  exact ⟨rfl, HB2.out⟩
theorem encode_short (h : Int) (hh : h = 1 ∨ h = 2 ∨ h = 3) (k rm : Int) (hr : roomR h k = (rm, 0)) (A1 : Option Addr) (c1 : Nat) (label : List Int) (A2 : Option Addr) (c2 : Nat) (m : List Int) (hm : ¬ rm < (m.length : Int)) (sb : Nat) (b : List Int) (w : World) (hscr : Scr w sb b) (hsl : sb < w.heap.size) (hbl : b.length ≤ 100000) (hlb : b.length < hlen h) :
    Calls Try.prog 24 #[.int .i64 h, .slice A1 label.length c1, .slice A2 m.length c2, .int .i64 k, .pointer (some ⟨sb, 0, none⟩)] w fun e' w' => e' = .returned (.tuple #[.slice none 0 0, .int .i64 150]) ∧ Away (fun k => k = sb) w w' := by
  have hl2 := hlen_le h
  have HRm : Hid (∀ W, Calls Try.prog 22 #[.int .i64 h, .int .i64 k] W fun e' w' => e' = .returned (.tuple #[.int .i64 rm, .int .i64 0]) ∧ Below W.heap.size W w') := fun W => (oaep_Room.calls 3 h k _ _ W (by rw [room_val, hr]))
  have HSz : Hid (∀ W, Calls Try.prog 29 #[.int .i64 h] W fun e w' => e = .returned (.int .i64 (hlen h : Int)) ∧ Below W.heap.size W w') := fun W => hash_Size.calls h _ W (size_at h hh)
  have HRd : Hid (∀ W, Below w.heap.size w W → Calls Try.prog 46 #[.pointer (some ⟨sb, 0, none⟩), .int .i64 (hlen h : Int)] W fun e w' => e = .returned (.tuple #[.slice none 0 0, .int .i64 150]) ∧ Away (fun k => k = sb) W w') := by
    intro W hW
    obtain ⟨A, c, hb, hc, hC, hA⟩ := hscr.row
    have hs : Scr W sb b := ⟨⟨A, c, (hW.block _ hsl).trans hb, hc, C_same hC (fun i hi => hW.block i hi), hA⟩⟩
    exact read_short sb b W hs (hlen h) (by omega) hbl hlb
  clear hr hscr
  go_enter Try.func24, Try.ntmps24
  go_wp2_with fail
  refine (HRm.out _).mono ?_
  rintro e' w2 ⟨rfl, hb2⟩
  have HB2 := Lib.hid hb2
  clear hb2
  go_wp2_with fail
  refine (HSz.out _).mono ?_
  rintro e w3 ⟨rfl, hb3⟩
  have HB3 := Lib.hid (HB2.out.trans (hb3.mono HB2.out.size))
  clear hb3 HB2
  go_wp2_with fail
  refine (HRd.out _ HB3.out).mono ?_
  rintro e w4 ⟨rfl, ha4⟩
  have HA4 : Hid (Away (fun k => k = sb) w w4) := (Away.of_below HB3.out).trans ha4
  clear ha4
  go_wp2_with fail
  go_ret2
  exact ⟨rfl, HA4.out⟩
def oaep_Encode.f (h : Int) (label m : List Int) (k : Int) (b : List Int) : Option (List Int × Int) :=
  if inB 8 label ∧ inB 8 m ∧ inB 8 b ∧ label.length ≤ 100000 ∧ b.length ≤ 100000 then
    (if (roomR h k).2 ≠ 0 then some ([], (roomR h k).2) else if (roomR h k).1 < (m.length : Int) then some ([], 231) else if b.length < hlen h then some ([], 150) else some (encL h label m k.toNat (b.take (hlen h)), 0))
  else none
theorem encode_any (h : Int) (A1 : Option Addr) (c1 : Nat) (label : List Int) (A2 : Option Addr) (c2 : Nat) (m : List Int) (k : Int) (sb : Nat) (b : List Int) (w : World) (h1 : Kd.C (Kd.int .u8) w A1 label.length label) (hc1 : label.length ≤ c1) (h2 : Kd.C (Kd.int .u8) w A2 m.length m) (hc2 : m.length ≤ c2)
    (hA1 : 0 < label.length → ∀ ad, A1 = some ad → ad.block ≠ sb) (hA2 : 0 < m.length → ∀ ad, A2 = some ad → ad.block ≠ sb) (hscr : Scr w sb b) (hsl : sb < w.heap.size) (r1 : List Int) (r2 : Int) (hf : oaep_Encode.f h label m k b = some (r1, r2)) :
    Calls Try.prog 24 #[.int .i64 h, .slice A1 label.length c1, .slice A2 m.length c2, .int .i64 k, .pointer (some ⟨sb, 0, none⟩)] w fun e w' => ∃ A c, e = .returned (.tuple #[.slice A r1.length c, .int .i64 r2]) ∧ r1.length ≤ c ∧ Kd.C (Kd.int .u8) w' A r1.length r1 ∧ Away (fun k => k = sb) w w' := by
  unfold oaep_Encode.f at hf
  split at hf
  case isFalse => cases hf
  rename_i hb
  have hnil : ∀ W : World, Kd.C (Kd.int .u8) W none ([] : List Int).length [] := fun W => (Kd.R_reads' (Kd.R_nil (Kd.int .u8) 5 W 0 (fun _ => True))).2.2
  obtain ⟨rm, e, hr⟩ : ∃ rm e, roomR h k = (rm, e) := ⟨_, _, rfl⟩
  rw [hr] at hf
  dsimp only at hf
  by_cases he : e ≠ 0
  · rw [if_pos he] at hf
    simp only [Option.some.injEq, Prod.mk.injEq] at hf
    obtain ⟨rfl, rfl⟩ := hf
    have hr0 : roomR h k = (0, e) := by
      rw [hr]
      unfold roomR at hr
      split at hr
      · split at hr
        · cases hr; rfl
        · split at hr
          · cases hr; rfl
          · cases hr; exact absurd rfl he
      · cases hr; rfl
    exact (encode_room h k e he hr0 A1 c1 label A2 c2 m sb w).mono (by
      rintro e' w' ⟨rfl, hbw⟩
      exact ⟨none, 0, rfl, Nat.le_refl _, hnil _, Away.of_below hbw⟩)
  · rw [if_neg he] at hf
    have he0 : e = 0 := Decidable.of_not_not he
    subst he0
    by_cases hm : rm < (m.length : Int)
    · rw [if_pos hm] at hf
      cases hf
      exact (encode_msg h k rm hr A1 c1 label A2 c2 m hm sb w).mono (by
        rintro e' w' ⟨rfl, hbw⟩
        exact ⟨none, 0, rfl, Nat.le_refl _, hnil _, Away.of_below hbw⟩)
    · rw [if_neg hm] at hf
      have hgood : (h = 1 ∨ h = 2 ∨ h = 3) ∧ 0 ≤ k ∧ k ≤ 1024 ∧ 2 * (hlen h : Int) + 2 ≤ k ∧ rm = k - 2 * (hlen h : Int) - 2 := by
        unfold roomR at hr
        split at hr
        · rename_i hh
          split at hr
          · cases hr
          · split at hr
            · cases hr
            · cases hr
              exact ⟨hh, by omega, by omega, by omega, rfl⟩
        · cases hr
      obtain ⟨hh, k0, k1, k2, k3⟩ := hgood
      by_cases hs : b.length < hlen h
      · rw [if_pos hs] at hf
        cases hf
        exact (encode_short h hh k rm hr A1 c1 label A2 c2 m hm sb b w hscr hsl hb.2.2.2.2 hs).mono (by
          rintro e' w' ⟨rfl, hbw⟩
          exact ⟨none, 0, rfl, Nat.le_refl _, hnil _, hbw⟩)
      · rw [if_neg hs] at hf
        cases hf
        obtain ⟨kn, rfl⟩ := Int.eq_ofNat_of_zero_le k0
        rw [Int.toNat_natCast]
        have hlb : (b.take (hlen h)).length = hlen h := by rw [List.length_take]; omega
        have hrl := rawL_length h label m kn (b.take (hlen h)) hlb (by omega)
        have hel : (encL h label m kn (b.take (hlen h))).length = kn := by
          unfold encL
          rw [maskE_length _ _ _ _ _ _ (by rw [maskE_length _ _ _ _ _ _ (by rw [hrl]; omega), hrl]; omega), maskE_length _ _ _ _ _ _ (by rw [hrl]; omega), hrl]
        refine (encode_good h hh A1 c1 label A2 c2 m kn sb b w h1 hc1 h2 hc2 hA1 hA2 hb.1 hb.2.1 hb.2.2.1 hb.2.2.2.1 (by omega) (by omega) hscr hsl hb.2.2.2.2 (by omega)).mono ?_
        rintro e' w' ⟨g, c, rfl, hc, hg, hrow, ha⟩
        refine ⟨some ⟨g, 0, none⟩, c, by rw [hel], by rw [hel]; exact hc, ?_, ha⟩
        have := hrow.C 0 kn (by rw [hel]; omega) (by rw [hel]; omega)
        rw [List.drop_zero, List.take_of_length_le (by rw [hel]; exact Nat.le_refl _)] at this
        rw [hel]
        exact this
end Go.Proofs.Ytincnnmojgphmaa.H

set_option linter.unusedVariables false
set_option linter.unusedSimpArgs false
namespace Go.Proofs.Ytincnnmojgphmaa.H
open Go.RowKit Go.Proofs.YtincnnmojgphmaaW.PrintWords Go.Proofs.YtincnnmojgphmaaW.PrintLast Go.Proofs.Ytincnnmojgphmaa.Sha Go.Proofs.YtincnnmojgphmaaW.PrintMore Go.Proofs.Ytincnnmojgphmaa.PT Go.Proofs.Ytincnnmojgphmaa.PO

theorem cut3 (c : Int) (x y : List Int) : (([c] ++ x ++ y).take 1 = [c]) ∧ (([c] ++ x ++ y).drop 1).take x.length = x ∧ ([c] ++ x ++ y).drop (1 + x.length) = y ∧ ([c] ++ x ++ y).take (1 + x.length) = [c] ++ x := by
  refine ⟨rfl, ?_, ?_, ?_⟩
  · show (x ++ y).take x.length = x
    rw [List.take_left]
  · rw [Nat.add_comm]
    show (x ++ y).drop x.length = y
    rw [List.drop_left]
  · rw [Nat.add_comm]
    show c :: (x ++ y).take x.length = c :: x
    rw [List.take_left]
theorem maskE_low (h c : Int) (x y : List Int) : maskE h ([c] ++ x ++ y) 1 x.length (1 + x.length) y.length = [c] ++ xorL x (maskL h y x.length) ++ y := by
  obtain ⟨h1, h2, h3, h4⟩ := cut3 c x y
  rw [maskE, h1, h2, h3, List.take_of_length_le (Nat.le_refl _)]
theorem maskE_high (h c : Int) (x y : List Int) : maskE h ([c] ++ x ++ y) (1 + x.length) y.length 1 x.length = [c] ++ x ++ xorL y (maskL h x y.length) := by
  obtain ⟨h1, h2, h3, h4⟩ := cut3 c x y
  rw [maskE, h2, h3, h4, List.take_of_length_le (Nat.le_refl _), List.drop_of_length_le (by simp; omega), List.append_nil]
/-- Any bytes in three parts. -/
theorem three (s : Nat) (em : List Int) (hl : 1 + s ≤ em.length) : ∃ c x y, em = [c] ++ x ++ y ∧ x.length = s ∧ y.length = em.length - (1 + s) := by
  refine ⟨em.getD 0 0, (em.drop 1).take s, em.drop (1 + s), ?_, by rw [List.length_take, List.length_drop]; omega, by rw [List.length_drop]⟩
  rcases em with _ | ⟨c, r⟩
  · simp at hl
  · simp only [List.getD_cons_zero, List.drop_succ_cons, List.drop_zero, Nat.add_comm 1 s, List.append_assoc]
    rw [List.take_append_drop]
    rfl
theorem decL_three (h c : Int) (x y : List Int) (hx : x.length = hlen h) : decL h ([c] ++ x ++ y) = [c] ++ xorL x (maskL h y (hlen h)) ++ xorL y (maskL h (xorL x (maskL h y (hlen h))) y.length) := by
  unfold decL
  have e1 : ([c] ++ x ++ y).length - (1 + hlen h) = y.length := by simp; omega
  rw [e1]
  have h1 := maskE_low h c x y
  rw [hx] at h1
  rw [h1]
  have h2 := maskE_high h c (xorL x (maskL h y (hlen h))) y
  rw [xorL_length, hx] at h2
  exact h2
theorem dec_enc (h : Int) (hh : h = 1 ∨ h = 2 ∨ h = 3) (label m : List Int) (hb1 : inB 8 label) (hbm : inB 8 m) (k : Nat) (seed : List Int) (hbs : inB 8 seed) (hs : seed.length = hlen h) (hk : m.length + 2 * hlen h + 2 ≤ k) : decL h (encL h label m k seed) = rawL h label m k seed := by
  obtain ⟨db, hdb⟩ : ∃ db, db = hsum h label ++ List.replicate (k - 2 * hlen h - 2 - m.length) 0 ++ [1] ++ m := ⟨_, rfl⟩
  have hraw : rawL h label m k seed = [0] ++ seed ++ db := by rw [rawL, hdb]; simp
  have hdl : db.length = k - (1 + hlen h) := by rw [hdb]; simp [hsum_length]; omega
  have hbd : inB 8 db := by
    rw [hdb]
    refine inB_append (inB_append (inB_append (hsum_in h hh label hb1) ?_) ?_) hbm
    · intro x hx; rw [List.eq_of_mem_replicate hx]; decide
    · intro x hx; rw [List.mem_singleton] at hx; subst hx; decide
  rw [encL, hraw, ← hdl, ← hs, maskE_high]
  obtain ⟨db', hd'⟩ : ∃ db', db' = xorL db (maskL h seed db.length) := ⟨_, rfl⟩
  have hdl' : db'.length = db.length := by rw [hd', xorL_length]
  have hm1 : inB 8 (maskL h seed db.length) := maskL_in h hh _ hbs _
  have hb' : inB 8 db' := by rw [hd']; exact xorL_in _ _ hbd hm1
  have h1 := maskE_low h 0 seed db'
  rw [← hd', ← hdl', h1, decL_three h 0 _ db' (by rw [xorL_length, hs]), hs, xorL_back _ _ hbs (maskL_in h hh _ hb' _), hdl']
  rw [hd', xorL_back _ _ hbd hm1]
theorem scan_zero (ok0 : Int) (db : List Int) (s : Nat) : ∀ d, (∀ j, j < d → db.getD (s + j) 0 = 0) → scan ok0 db s d = (ok0, 0, 0)
  | 0, _ => rfl
  | d + 1, h => by
    rw [scan, scan_zero ok0 db s d (fun j hj => h j (by omega)), if_neg (fun x => x.1 (h d (by omega)))]
theorem scan_found (ok0 : Int) (db : List Int) (s p : Nat) (hz : ∀ j, j < p → db.getD (s + j) 0 = 0) (hp : db.getD (s + p) 0 ≠ 0) : ∀ e, scan ok0 db s (p + 1 + e) = (if db.getD (s + p) 0 = 1 then ok0 else 0, s + p, 1)
  | 0 => by rw [Nat.add_zero, scan, scan_zero ok0 db s p hz, if_pos ⟨hp, rfl⟩]
  | e + 1 => by
    rw [← Nat.add_assoc, scan, scan_found ok0 db s p hz hp e, if_neg (fun x => by have := x.2; simp at this)]
theorem scan_bad (db : List Int) (s : Nat) : ∀ d, (scan 0 db s d).1 = 0
  | 0 => rfl
  | d + 1 => by
    rw [scan]
    split
    · show (if db.getD (s + d) 0 = 1 then (scan 0 db s d).1 else 0) = 0
      rw [scan_bad db s d]
      split <;> rfl
    · exact scan_bad db s d
theorem open_enc (h : Int) (hh : h = 1 ∨ h = 2 ∨ h = 3) (label other m : List Int) (hb1 : inB 8 label) (hbm : inB 8 m) (k : Nat) (seed : List Int) (hbs : inB 8 seed) (hs : seed.length = hlen h) (hk : m.length + 2 * hlen h + 2 ≤ k) :
    openL h other (encL h label m k seed) = if hsum h label = hsum h other then (m, 0) else ([], 230) := by
  obtain ⟨Z, hZ⟩ : ∃ Z, Z = k - 2 * hlen h - 2 - m.length := ⟨_, rfl⟩
  have hdrop : (rawL h label m k seed).drop (1 + hlen h) = hsum h label ++ (List.replicate Z 0 ++ ([1] ++ m)) := by
    have := (cut3 0 seed (hsum h label ++ (List.replicate Z 0 ++ ([1] ++ m)))).2.2.1
    rw [hs] at this
    rw [← this, rawL, hZ]
    simp
  have hlenD : (hsum h label ++ (List.replicate Z (0 : Int) ++ ([1] ++ m))).length = hlen h + Z + 1 + m.length := by simp [hsum_length]; omega
  have hg0 : (rawL h label m k seed).getD 0 0 = 0 := rfl
  unfold openL okL
  rw [dec_enc h hh label m hb1 hbm k seed hbs hs hk, hdrop, hg0]
  have htk : (hsum h label ++ (List.replicate Z (0 : Int) ++ ([1] ++ m))).take (hlen h) = hsum h label := by
    have := List.take_left' (l₁ := hsum h label) (l₂ := List.replicate Z (0 : Int) ++ ([1] ++ m)) (hsum_length h label)
    exact this
  rw [htk]
  have hget : ∀ j, (hsum h label ++ (List.replicate Z (0 : Int) ++ ([1] ++ m))).getD (hlen h + j) 0 = (List.replicate Z (0 : Int) ++ ([1] ++ m)).getD j 0 := fun j => by
    rw [List.getD_eq_getElem?_getD, List.getD_eq_getElem?_getD, List.getElem?_append_right (by rw [hsum_length]; omega), hsum_length, Nat.add_sub_cancel_left]
  have hz : ∀ j, j < Z → (hsum h label ++ (List.replicate Z (0 : Int) ++ ([1] ++ m))).getD (hlen h + j) 0 = 0 := fun j hj => by
    rw [hget, List.getD_eq_getElem?_getD, List.getElem?_append_left (by simpa using hj), List.getElem?_replicate, if_pos hj]; rfl
  have hone : (hsum h label ++ (List.replicate Z (0 : Int) ++ ([1] ++ m))).getD (hlen h + Z) 0 = 1 := by
    rw [hget, List.getD_eq_getElem?_getD, List.getElem?_append_right (by simp), List.length_replicate, Nat.sub_self]; rfl
  by_cases he : hsum h label = hsum h other
  · have hok : (if (0 : Int) = 0 ∧ hsum h label = hsum h other then (1 : Int) else 0) = 1 := if_pos ⟨rfl, he⟩
    rw [hok, if_pos he]
    have hsc := scan_found 1 _ (hlen h) Z hz (by rw [hone]; decide) m.length
    rw [hone, if_pos rfl] at hsc
    have e1 : (hsum h label ++ (List.replicate Z (0 : Int) ++ ([1] ++ m))).length - hlen h = Z + 1 + m.length := by rw [hlenD]; omega
    dsimp only
    rw [e1, hsc, if_pos ⟨rfl, rfl⟩]
    congr 1
    have e2 : hlen h + Z + 1 = (hsum h label ++ (List.replicate Z (0 : Int) ++ [1])).length := by simp [hsum_length]; omega
    rw [e2, show hsum h label ++ (List.replicate Z (0 : Int) ++ ([1] ++ m)) = (hsum h label ++ (List.replicate Z (0 : Int) ++ [1])) ++ m by simp, List.drop_left]
  · have hok : (if (0 : Int) = 0 ∧ hsum h label = hsum h other then (1 : Int) else 0) = 0 := if_neg (fun x => he x.2)
    rw [hok, if_neg he]
    dsimp only
    rw [if_neg (fun x => by rw [scan_bad] at x; exact absurd x.1 (by decide))]
/-- The reference's search behind the hash. -/
theorem ropen_loop (db : List Int) (s : Nat) (hs : s ≤ db.length) (hl : db.length ≤ 100000) (ok0 : Int) (hok : ok0 = 1) (d : Nat) : ∀ (k i : Nat), i + d = db.length → s ≤ i → d < k → (∀ j, j < i - s → db.getD (s + j) 0 = 0) →
    sconceref23_Open.l0 k db (i : Int) = some (if (scan ok0 db s (db.length - s)).1 = 1 ∧ (scan ok0 db s (db.length - s)).2.2 = 1 then (db.drop ((scan ok0 db s (db.length - s)).2.1 + 1), 0) else ([], 230)) := by
  induction d with
  | zero =>
    intro k i hi hsi hk hz
    obtain ⟨k, rfl⟩ : ∃ j, k = j + 1 := ⟨k - 1, by omega⟩
    have hi2 : i - s = db.length - s := by omega
    rw [hi2] at hz
    unfold sconceref23_Open.l0
    rw [if_neg (by omega), scan_zero ok0 db s _ hz, if_neg (fun x => by have := x.2; simp at this)]
  | succ d ih =>
    intro k i hi hsi hk hz
    obtain ⟨k, rfl⟩ : ∃ j, k = j + 1 := ⟨k - 1, by omega⟩
    have hr : rd db (i : Int) = db.getD i 0 := by unfold rd; rw [Int.toNat_natCast]
    have hw : wrap64 ((i : Int) + 1) = ((i + 1 : Nat) : Int) := by unfold wrap64; omega
    unfold sconceref23_Open.l0
    rw [if_pos (by omega), if_pos (by omega), hr, hw]
    have hsp : s + (i - s) = i := by omega
    have hsplit : db.length - s = (i - s) + 1 + d := by omega
    by_cases h1 : db.getD i 0 = 1
    · have hne : db.getD (s + (i - s)) 0 ≠ 0 := by rw [hsp, h1]; decide
      have hsc := scan_found ok0 db s (i - s) hz hne d
      rw [hsp, h1, if_pos rfl] at hsc
      rw [if_pos h1, if_pos (by omega), if_pos (by omega), Option.bind_some, Int.toNat_natCast, if_pos (by rw [List.length_drop]; simp; omega), hsplit, hsc, hok]
      rfl
    · rw [if_neg h1]
      by_cases h0 : db.getD i 0 = 0
      · rw [if_pos h0]
        exact ih k (i + 1) (by omega) (by omega) (by omega) (fun j hj => by
          by_cases hji : j = i - s
          · rw [hji, hsp]; exact h0
          · exact hz j (by omega))
      · have hne : db.getD (s + (i - s)) 0 ≠ 0 := by rw [hsp]; exact h0
        have hsc := scan_found ok0 db s (i - s) hz hne d
        rw [hsp, if_neg h1] at hsc
        rw [if_neg h0, hsplit, hsc, if_neg (fun x => by have := x.1; simp at this)]
theorem d_numsL_bytesOf {xs : List Int} (h : inB 8 xs) : (Lib.bytesOf xs).map (fun b => (b.toNat : Int)) = xs := by
  unfold Lib.bytesOf
  rw [List.map_map]
  conv => rhs; rw [← List.map_id xs]
  apply List.map_congr_left
  intro x hx
  have := h x hx
  simp
  omega
theorem d_str_same {xs ys : List Int} (hx : inB 8 xs) (hy : inB 8 ys) : ((strOfNums xs).toList == (strOfNums ys).toList) = decide (xs = ys) := by
  by_cases e : xs = ys
  · subst e
    rw [decide_eq_true rfl]
    simp
  · rw [decide_eq_false e, beq_eq_false_iff_ne, Lib.strOfNums_toList, Lib.strOfNums_toList]
    intro he
    apply e
    rw [← d_numsL_bytesOf hx, he, d_numsL_bytesOf hy]
theorem rsame_13 (a b : List Int) (ha : inB 8 a) (hb : inB 8 b) : sconceref13_Same.f a b = some (decide (a = b)) := by
  unfold sconceref13_Same.f
  rw [d_str_same ha hb]
theorem rsize_at (h : Int) (hh : h = 1 ∨ h = 2 ∨ h = 3) : sconceref13_Size.f h = some (hlen h : Int) := by
  rcases hh with rfl | rfl | rfl <;> simp [sconceref13_Size.f, hlen]
theorem rsize_none (h : Int) (hh : ¬ (h = 1 ∨ h = 2 ∨ h = 3)) : sconceref13_Size.f h = some 0 := by
  unfold sconceref13_Size.f
  rw [if_neg (fun e => hh (.inl e)), if_neg (fun e => hh (.inr (.inl e))), if_neg (fun e => hh (.inr (.inr e)))]
theorem ropen_spec (h : Int) (label em : List Int) (hb1 : inB 8 label) (hbE : inB 8 em) (hm1 : label.length ≤ 100000) (hmE : em.length ≤ 140737488351232) (k : Nat) (hk : 20000 < k) : sconceref23_Open.f k h label em = oaep_Decode.f h label em := by
  unfold sconceref23_Open.f oaep_Decode.f
  rw [if_pos ⟨hb1, hbE, hm1, by omega⟩]
  by_cases hh : h = 1 ∨ h = 2 ∨ h = 3
  · have hl1 := hlen_pos h
    have hl2 := hlen_le h
    rw [rsize_at h hh, Option.bind_some, if_neg (by omega), if_pos hh]
    obtain ⟨k, rfl⟩ : ∃ j, k = j + 1 := ⟨k - 1, by omega⟩
    have e1 : wrap64 (2 * (hlen h : Int)) = 2 * (hlen h : Int) := by unfold wrap64; omega
    have e2 : wrap64 (2 * (hlen h : Int) + 2) = 2 * (hlen h : Int) + 2 := by unfold wrap64; omega
    have e3 : wrap64 (1 + (hlen h : Int)) = ((1 + hlen h : Nat) : Int) := by unfold wrap64; omega
    have hj : ∀ b : Bool, sconceref23_Open.j0 (k + 1) h label em (hlen h : Int) b = if b = true then some (([] : List Int), 230) else sconceref23_Open.j0 (k + 1) h label em (hlen h : Int) false := fun b => by
      cases b
      · rw [if_neg (by decide)]
      · unfold sconceref23_Open.j0
        (try dsimp only)
        rw [if_pos rfl, if_pos rfl]
    rw [e1, e2]
    by_cases hs : (em.length : Int) < 2 * (hlen h : Int) + 2
    · rw [if_pos hs, hj, if_pos rfl, if_pos (.inl (by omega))]
    · rw [if_neg hs, hj]
      by_cases hbig : (em.length : Int) > 1024
      · rw [if_pos (decide_eq_true hbig), if_pos (.inr (by omega))]
      · rw [if_neg (by simpa using hbig), if_neg (fun x => by omega)]
        unfold sconceref23_Open.j0
        (try dsimp only)
        obtain ⟨c, x, y, rfl, hx, hy⟩ := three (hlen h) em (by omega)
        obtain ⟨c1, c2, c3, c4⟩ := cut3 c x y
        have hbx : inB 8 x := fun z hz => hbE z (by simp [hz])
        have hby : inB 8 y := fun z hz => hbE z (by simp [hz])
        have hlen3 : ([c] ++ x ++ y).length = 1 + hlen h + y.length := by simp [hx]; omega
        rw [hx] at c2 c3 c4
        have hyl : y.length ≤ 1024 := by omega
        have hm1' : mgf_Mask.f h y (hlen h : Int) = some (maskL h y (hlen h), 0) := by
          unfold mgf_Mask.f
          rw [if_pos ⟨hby, by omega⟩, if_pos hh, if_neg (by omega), if_neg (by omega), Int.toNat_natCast]
        obtain ⟨x', hx'⟩ : ∃ x', x' = xorL x (maskL h y (hlen h)) := ⟨_, rfl⟩
        have hbx' : inB 8 x' := by rw [hx']; exact xorL_in _ _ hbx (maskL_in h hh _ hby _)
        have hxl' : x'.length = hlen h := by rw [hx', xorL_length, hx]
        have hm2' : mgf_Mask.f h x' (y.length : Int) = some (maskL h x' y.length, 0) := by
          unfold mgf_Mask.f
          rw [if_pos ⟨hbx', by omega⟩, if_pos hh, if_neg (by omega), if_neg (by omega), Int.toNat_natCast]
        have ctk : (([c] ++ x ++ y).take (1 + hlen h)).drop 1 = x := by rw [c4]; rfl
        rw [if_neg (by decide), e3, Int.toNat_natCast, if_pos (by omega), if_pos (by omega), c3, rmask_at h y hby (by omega) _ k (by omega), hm1', Option.bind_some, if_pos (by omega), ctk, rxor_at _ _ (by omega) k (by omega), Option.bind_some, ← hx',
          rmask_at h x' hbx' (by omega) _ k (by omega), hm2', Option.bind_some, rxor_at _ _ (by omega) k (by omega), Option.bind_some, rsum_at h hh label hb1 (by omega), Option.bind_some, if_pos (by omega)]
        obtain ⟨y', hy'⟩ : ∃ y', y' = xorL y (maskL h x' y.length) := ⟨_, rfl⟩
        have hyl' : y'.length = y.length := by rw [hy', xorL_length]
        rw [← hy']
        have hrd : rd ([c] ++ x ++ y) 0 = c := rfl
        have hdec : decL h ([c] ++ x ++ y) = [c] ++ x' ++ y' := by rw [decL_three h c x y hx, ← hx', ← hy']
        have hdd : ([c] ++ x' ++ y').drop (1 + hlen h) = y' := by
          have := (cut3 c x' y').2.2.1
          rw [hxl'] at this
          exact this
        have hopen : openL h label ([c] ++ x ++ y) = if (scan (okL h label ([c] ++ x ++ y)) y' (hlen h) (y'.length - hlen h)).1 = 1 ∧ (scan (okL h label ([c] ++ x ++ y)) y' (hlen h) (y'.length - hlen h)).2.2 = 1 then (y'.drop ((scan (okL h label ([c] ++ x ++ y)) y' (hlen h) (y'.length - hlen h)).2.1 + 1), 0) else ([], 230) := by
          unfold openL
          rw [hdec, hdd]
        have hokv : okL h label ([c] ++ x ++ y) = if c = 0 ∧ y'.take (hlen h) = hsum h label then 1 else 0 := by
          unfold okL
          rw [hdec, hdd]
          rfl
        have hbad : ∀ v : Int, v = 0 → okL h label ([c] ++ x ++ y) = v → some (([] : List Int), (230 : Int)) = some (openL h label ([c] ++ x ++ y)) := by
          intro v hv hv2
          rw [hopen, hv2, hv, if_neg (fun z => by rw [scan_bad] at z; exact absurd z.1 (by decide))]
        obtain ⟨k, rfl⟩ : ∃ j, k = j + 1 := ⟨k - 1, by omega⟩
        have hj1 : ∀ b : Bool, sconceref23_Open.j1 (k + 1) (hlen h : Int) y' b = if b = true then some (([] : List Int), 230) else sconceref23_Open.l0 k y' (hlen h : Int) := fun b => by rw [sconceref23_Open.j1]
        rw [hrd]
        by_cases hc : c = 0
        · rw [if_pos hc, if_pos (by omega), if_pos (by omega), Int.toNat_natCast, rsame_13 _ _ (inB_take (by rw [hy']; exact xorL_in _ _ hby (maskL_in h hh _ hbx' _)) _) (hsum_in h hh label hb1), Option.bind_some, hj1]
          by_cases he : y'.take (hlen h) = hsum h label
          · rw [if_pos ⟨hc, he⟩] at hokv
            rw [decide_eq_true he, if_neg (by decide), hopen, hokv]
            exact ropen_loop y' (hlen h) (by omega) (by omega) 1 rfl (y'.length - hlen h) k (hlen h) (by omega) (Nat.le_refl _) (by omega) (fun j hj => by omega)
          · rw [if_neg (fun z => he z.2)] at hokv
            rw [decide_eq_false he, if_pos (by decide)]
            exact hbad 0 rfl hokv
        · rw [if_neg (fun z => hc z.1)] at hokv
          rw [if_neg hc, hj1, if_pos rfl]
          exact hbad 0 rfl hokv
  · rw [rsize_none h hh, Option.bind_some, if_pos rfl, if_neg hh]

end Go.Proofs.Ytincnnmojgphmaa.H

set_option linter.unusedVariables false
set_option linter.unusedSimpArgs false
namespace Go.Proofs.Ytincnnmojgphmaa.H
open Go.RowKit Go.Proofs.YtincnnmojgphmaaW.PrintWords Go.Proofs.YtincnnmojgphmaaW.PrintLast Go.Proofs.Ytincnnmojgphmaa.Sha Go.Proofs.YtincnnmojgphmaaW.PrintMore Go.Proofs.Ytincnnmojgphmaa.PT Go.Proofs.Ytincnnmojgphmaa.PO
attribute [local go_sem] Oper.semAt_some

theorem Scr.below {W W' : World} {sb : Nat} {l : List Int} (h : Scr W sb l) (hb : Below W.heap.size W W') : Scr W' sb l := by
  obtain ⟨A, c, h1, h2, h3, h4⟩ := h.row
  exact ⟨⟨A, c, (hb.block _ (Array.getElem?_eq_some_iff.1 h1).1).trans h1, h2, C_same h3 (fun i hi => hb.block i hi), h4⟩⟩
set_option maxRecDepth 100000 in
set_option maxHeartbeats 2000000 in
theorem awake24_ok (w : World) : Calls Try.prog 18 #[] w fun e w' => e = .returned (.bool true) ∧ Below w.heap.size w w' := by
  have hseed : ((List.replicate 32 (0 : Int)).take (hlen 1)) = List.replicate 32 0 := rfl
  have hlx : (encL 1 [] [] 66 (List.replicate 32 0)).length = 66 := by
    unfold encL
    rw [maskE_length _ _ _ _ _ _ (by rw [maskE_length _ _ _ _ _ _ (by rw [rawL_length _ _ _ _ _ (by decide) (by decide)]; decide), rawL_length _ _ _ _ _ (by decide) (by decide)]; decide), maskE_length _ _ _ _ _ _ (by rw [rawL_length _ _ _ _ _ (by decide) (by decide)]; decide), rawL_length _ _ _ _ _ (by decide) (by decide)]
  have hbz : inB 8 (List.replicate 32 (0 : Int)) := fun x hx => by rw [List.eq_of_mem_replicate hx]; decide
  have hnil : inB 8 ([] : List Int) := fun x hx => by cases hx
  have hop := open_enc 1 (.inl rfl) [] [] [] hnil hnil 66 (List.replicate 32 0) hbz (by decide) (by decide)
  rw [if_pos rfl] at hop
  have hbx : inB 8 (encL 1 [] [] 66 (List.replicate 32 0)) := by
    unfold encL
    refine maskE_in 1 (.inl rfl) _ (maskE_in 1 (.inl rfl) _ ?_ _ _ _ _) _ _ _ _
    unfold rawL
    refine inB_append (inB_append (inB_append (inB_append (inB_append ?_ hbz) (hsum_in 1 (.inl rfl) [] hnil)) ?_) ?_) hnil
    · intro x hx; rw [List.mem_singleton] at hx; subst hx; decide
    · intro x hx; rw [List.eq_of_mem_replicate hx]; decide
    · intro x hx; rw [List.mem_singleton] at hx; subst hx; decide
  have HE : Hid (oaep_Encode.f 1 [] [] 66 (List.replicate 32 0) = some (encL 1 [] [] 66 (List.replicate 32 0), 0)) := by
    show _ = _
    unfold oaep_Encode.f
    rw [if_pos ⟨hnil, hnil, hbz, by decide, by decide⟩, show roomR 1 66 = (0, 0) by decide, if_neg (by decide), if_neg (by decide), if_neg (by decide)]
    rfl
  have HD : Hid (oaep_Decode.f 1 [] (encL 1 [] [] 66 (List.replicate 32 0)) = some (([] : List Int), 0)) := by
    show _ = _
    unfold oaep_Decode.f
    rw [if_pos ⟨hnil, hbx, by decide, by rw [hlx]; decide⟩, if_pos (.inl rfl), if_neg (by rw [hlx]; decide), hop]
  clear hop hbx
  obtain ⟨X, hX⟩ : ∃ X, X = encL 1 [] [] 66 (List.replicate 32 0) := ⟨_, rfl⟩
  rw [← hX] at HE HD hlx
  clear hX hlx
  have hCn : Hid (∀ W : World, Kd.C (Kd.int .u8) W none ([] : List Int).length []) := fun W => (Kd.R_reads' (Kd.R_nil (Kd.int .u8) 5 W 0 (fun _ => True))).2.2
  have HR1 : Hid (∀ W, Calls Try.prog 22 #[.int .i64 1, .int .i64 66] W fun e w' => e = .returned (.tuple #[.int .i64 0, .int .i64 0]) ∧ Below W.heap.size W w') := fun W => oaep_Room.calls 3 1 66 _ _ W (by rw [room_val]; decide)
  have HR2 : Hid (∀ W, Calls Try.prog 22 #[.int .i64 1, .int .i64 65] W fun e w' => e = .returned (.tuple #[.int .i64 0, .int .i64 232]) ∧ Below W.heap.size W w') := fun W => oaep_Room.calls 3 1 65 _ _ W (by rw [room_val]; decide)
  go_enter Try.func18, Try.ntmps18
  go_wp2_with fail
  refine (HR1.out _).mono ?_
  rintro e w2 ⟨rfl, hb2⟩
  have HB2 := Lib.hid hb2
  clear hb2
  go_wp2_with fail
  refine (HR2.out _).mono ?_
  rintro e w3 ⟨rfl, hb3⟩
  have HB3 := Lib.hid (HB2.out.trans (hb3.mono HB2.out.size))
  clear hb3
  go_wp2_with fail
  have hmk : (Instr.makeSlice 22 (.int .i64 32) (.int .i64 32)).run Try.prog w3 = .ok (.slice (some ⟨w3.heap.size, 0, none⟩) 32 32) (w3.alloc (.cells (nums .u8 (List.replicate 32 0)).toArray 5)) := make_full 32 (by decide) w3
  rw [hmk]
  clear hmk
  have HB4 : Hid (Below w.heap.size w (w3.alloc (.cells (nums .u8 (List.replicate 32 0)).toArray 5))) := HB3.out.alloc HB3.out.size _
  have HC4 : Hid (Kd.C (Kd.int .u8) (w3.alloc (.cells (nums .u8 (List.replicate 32 0)).toArray 5)) (some ⟨w3.heap.size, 0, none⟩) (List.replicate 32 (0 : Int)).length (List.replicate 32 0)) := C_nums (World.alloc_heap_new w3 _) (by simp)
  generalize w3.alloc (.cells (nums .u8 (List.replicate 32 0)).toArray 5) = w4 at HB4 HC4 ⊢
  go_wp2_with fail
  have hnew := new_ok (some ⟨w3.heap.size, 0, none⟩) 32 (List.replicate 32 0) w4 HC4.out (by simp) (by simp)
  rw [List.length_replicate] at hnew
  refine hnew.mono ?_
  rintro e w5 ⟨sb, rfl, hsb, hscr, hb5, hsl⟩
  have HB5 : Hid (Below w.heap.size w w5) := HB4.out.trans (hb5.mono HB4.out.size)
  have HSB : Hid (w.heap.size ≤ sb) := Nat.le_trans HB4.out.size hsb
  have HSC := Lib.hid hscr
  have HSL := Lib.hid hsl
  clear hnew hsb hscr hb5 hsl
  go_wp2_with fail
  refine (encode_any 1 none 0 [] none 0 [] 66 sb (List.replicate 32 0) w5 (hCn.out w5) (Nat.le_refl _) (hCn.out w5) (Nat.le_refl _) (fun _ ad e => by cases e) (fun _ ad e => by cases e) HSC.out HSL.out X 0 HE.out).mono ?_
  rintro e w6 ⟨Ax, cx, rfl, hcx, hCx, ha6⟩
  have HB6 : Hid (Below w.heap.size w w6) := Away.below HB5.out ha6 (fun i hi => by rw [hi]; exact HSB.out) HB5.out.size
  have HCX := Lib.hid hCx
  have HCL := Lib.hid hcx
  clear hcx hCx ha6
  go_wp2_with fail
  refine (oaep_Decode.calls 1 none 0 [] Ax cx X [] 0 w6 (hCn.out w6) (Nat.le_refl _) HCX.out HCL.out HD.out).mono ?_
  rintro e w7 ⟨v7, rfl, hv7, hb7⟩
  obtain ⟨A7, c7, rfl⟩ := Kd.R_slice hv7
  have HB7 : Hid (Below w.heap.size w w7) := HB6.out.trans (hb7.mono HB6.out.size)
  clear hv7 hb7
  go_wp2_with fail
  go_ret
  exact ⟨rfl, HB7.out⟩
def sconcelaw24_awake.f : Option Bool := some true
theorem sconcelaw24_awake.calls (r : Bool) (w : World) (h : sconcelaw24_awake.f = some r) : Calls Try.prog 18 #[] w fun e w' => e = .returned (.bool r) ∧ Below w.heap.size w w' := by
  cases h
  exact awake24_ok w
end Go.Proofs.Ytincnnmojgphmaa.H
