/- '==' of two arrays of whole numbers that are alike. -/
import Derived.Test.YtmmbbkdbebfhiaaHAwake12
import Derived.ChangeKeysEq
import Derived.OpenShut
import Derived.WideShapes
set_option linter.unusedVariables false
set_option linter.unusedSimpArgs false
namespace Go.Proofs.Ytmmbbkdbebfhiaa.H
open Go.RowKit Go.Proofs.YtmmbbkdbebfhiaaW.PrintWords
theorem run_part_num {P : Program} {e : TypeId} {k : IntKind} {cs : Array Value} (he : P.underlying e = some (.int k)) (hz : (P.info? e).map (·.size) = some 1) (j : Nat) (v : Value) (hv : cs[j]? = some v) (w : World) : (part e cs j).run P w = .ok v w := by
  cases hq : P.info? e with
  | none => simp [hq] at hz
  | some q =>
    have hs : q.size = 1 := by simpa [hq] using hz
    simp [run_underlying he, part, isAgg, sizeOf, typeInfo, hq, hs, hv]
theorem run_equalIn_nums {P : Program} {t e : TypeId} {n : Nat} {k : IntKind} (d : Nat) (l : List Int) (hl : l.length = n) (hu : P.underlying t = some (.array n e)) (he : P.underlying e = some (.int k)) (hz : (P.info? e).map (·.size) = some 1) (w : World) :
    (Op.equalIn (d + 2) t (.agg (nums k l).toArray) (.agg (nums k l).toArray)).run P w = .ok true w := by
  have hc : P.cellsOf e = 1 := by simp [Program.cellsOf]; cases hq : P.info? e <;> simp_all
  have hi : (P.info? e).isSome = true := by cases hq : P.info? e <;> simp_all
  obtain ⟨i, hi⟩ := Option.isSome_iff_exists.1 hi
  have hE : ∀ is : List Nat, (∀ j, j ∈ is → j < n) → (Op.eqItems (d + 1) e 1 (nums k l).toArray (nums k l).toArray is).run P w = .ok true w := by
    intro is
    induction is with
    | nil => intro _; simp [Op.eqItems]
    | cons j is ih =>
      intro hj
      have hjn : j < l.length := by rw [hl]; exact hj j (by simp)
      have hv : (nums k l).toArray[j * 1]? = some (.int k (l.getD j 0)) := by
        rw [Nat.mul_one, List.getElem?_toArray, nums, List.getElem?_map, List.getElem?_eq_getElem hjn, List.getD_eq_getElem?_getD, List.getElem?_eq_getElem hjn]; rfl
      have hp := run_part_num (P := P) he hz (j * 1) _ hv w
      have hq : (Op.equalIn (d + 1) e (.int k (l.getD j 0)) (.int k (l.getD j 0))).run P w = .ok true w := by
        simp [Op.equalIn, run_underlying he]
      simp only [Op.eqItems, Sem.run_bind, hp, Result.andThen_ok, hq]
      simpa using ih (fun q hq => hj q (by simp [hq]))
  have h := run_equalIn_array (P := P) (w := w) (d + 1) (nums k l).toArray (nums k l).toArray hu hi
  rw [hc, hE _ (fun j hj => List.mem_range.1 hj)] at h
  exact h
theorem run_eql_nums {P : Program} {t e : TypeId} {n : Nat} {k : IntKind} (l : List Int) (hl : l.length = n) (hu : P.underlying t = some (.array n e)) (he : P.underlying e = some (.int k)) (hz : (P.info? e).map (·.size) = some 1) (w : World) :
    (binOp .eql t (.agg (nums k l).toArray) (.agg (nums k l).toArray)).run P w = .ok (.bool true) w := by
  simp only [binOp]
  simp [Op.equal, Op.maxDepth, run_equalIn_nums 9998 l hl hu he hz w]

/-- An array of whole numbers that came in. -/
theorem open_arr {H : Type} {enc : TypeId × Value → H} {P : Program} {w : World} {r : Reach} {b0 base : Nat} {spare : Nat → Bool} {held : Bool} {t e : TypeId} {n : Nat} {k : IntKind} {v : Value} {d : DataW H} {p : List MemPlace}
    (hs : P.underlying t = some (.array n e)) (he : P.underlying e = some (.int k)) (hC : P.cellsOf e = 1) (hC2 : P.cellsOf t = n) (hv : Value.okWide P w r b0 t v) (h : DataW.Trod enc P w base spare held t v d p) :
    ∃ l : List Int, v = .agg (nums k l).toArray ∧ l.length = n ∧ ∀ x ∈ l, (Lit.int k x).wf = true := by
  have hv2 : ∃ cs, v = .agg cs ∧ cs.size = P.cellsOf t := by
    simp only [Value.okWide, hs] at hv
    obtain ⟨cs, h1, h2, _⟩ := hv
    exact ⟨cs, h1, h2⟩
  obtain ⟨cs, rfl, hsz⟩ := hv2
  obtain ⟨fuel, hf⟩ := h
  obtain ⟨xs, m, _, _, hl, hxl, hx⟩ := DataW.trod_array hs hf
  rw [hC] at hx
  have hcl : cs.size = n := hsz.trans hC2
  have hel : ∀ i, i < n → ∃ z, cs[i]? = some (.int k z) ∧ (Lit.int k z).wf = true := fun i hi => by
    have h1 := hx i hi
    have hxi : ∃ y, xs[i]? = some y := ⟨xs[i]'(by rw [hxl]; exact hi), List.getElem?_eq_getElem _⟩
    obtain ⟨y, hy⟩ := hxi
    rw [hy] at h1
    obtain ⟨z, e1, _, hw⟩ := DataW.trod_int he h1
    refine ⟨z, ?_, hw⟩
    have hi2 : i < cs.size := by omega
    have h3 : (List.take 1 (List.drop (i * 1) (Value.agg cs).cells.toList)) = [cs[i]] := by
      rw [Nat.mul_one]
      have : (Value.agg cs).cells = cs := rfl
      rw [this, List.drop_eq_getElem_cons (by simpa using hi2)]
      simp
    rw [h3] at e1
    rw [Array.getElem?_eq_getElem hi2]
    simpa using e1
  have hfun : ∃ f : Nat → Int, ∀ i, i < n → cs[i]? = some (.int k (f i)) ∧ (Lit.int k (f i)).wf = true := by
    refine ⟨fun i => if h : i < n then (hel i h).choose else 0, fun i hi => ?_⟩
    simp only [hi, dif_pos]
    exact (hel i hi).choose_spec
  obtain ⟨f, hf2⟩ := hfun
  refine ⟨(List.range n).map f, ?_, by simp, fun x hx => ?_⟩
  · congr 1
    apply Array.ext_getElem?
    intro i
    have e2 : (nums k ((List.range n).map f)).toArray[i]? = (((List.range n)[i]?).map f).map (Value.int k) := by
      rw [List.getElem?_toArray]; simp only [nums, List.getElem?_map]
    rw [e2]
    by_cases hi : i < n
    · rw [(hf2 i hi).1, List.getElem?_range hi]; rfl
    · rw [Array.getElem?_eq_none (by omega), List.getElem?_eq_none (by simp; omega)]; rfl
  · obtain ⟨i, hi, rfl⟩ := List.mem_map.1 hx
    exact (hf2 i (List.mem_range.1 hi)).2
end Go.Proofs.Ytmmbbkdbebfhiaa.H
