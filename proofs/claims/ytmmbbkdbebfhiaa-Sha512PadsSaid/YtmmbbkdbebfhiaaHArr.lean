/- '==' of two arrays of whole numbers that are alike. -/
import Derived.Test.YtmmbbkdbebfhiaaHAwake12
import Derived.ChangeKeysEq
set_option linter.unusedVariables false
set_option linter.unusedSimpArgs false
namespace Go.Proofs.Ytmmbbkdbebfhiaa.H
open Go.RowKit Go.Proofs.YtmmbbkdbebfhiaaW.PrintWords
theorem run_part_num {P : Program} {e : TypeId} {k : IntKind} {cs : Array Value} (he : P.underlying e = some (.int k)) (hz : (P.info? e).map (·.size) = some 1) (j : Nat) (v : Value) (hv : cs[j]? = some v) (w : World) : (part e cs j).run P w = .ok v w := by
  cases hq : P.info? e with
  | none => simp [hq] at hz
  | some q =>
    have hs : q.size = 1 := by simpa [hq] using hz
    simp [run_underlying he, part, isAgg, sizeOf, typeInfo, hq, hs, hv]
theorem run_equalIn_nums {P : Program} {t e : TypeId} {n : Nat} {k : IntKind} (d : Nat) (l : List Int) (hl : l.length = n) (hu : P.underlying t = some (.array n e)) (he : P.underlying e = some (.int k)) (hz : (P.info? e).map (·.size) = some 1) (w : World) :
    (Op.equalIn (d + 2) t (.agg (nums k l).toArray) (.agg (nums k l).toArray)).run P w = .ok true w := by
  have hc : P.cellsOf e = 1 := by simp [Program.cellsOf]; cases hq : P.info? e <;> simp_all
  have hi : (P.info? e).isSome = true := by cases hq : P.info? e <;> simp_all
  obtain ⟨i, hi⟩ := Option.isSome_iff_exists.1 hi
  have hE : ∀ is : List Nat, (∀ j, j ∈ is → j < n) → (Op.eqItems (d + 1) e 1 (nums k l).toArray (nums k l).toArray is).run P w = .ok true w := by
    intro is
    induction is with
    | nil => intro _; simp [Op.eqItems]
    | cons j is ih =>
      intro hj
      have hjn : j < l.length := by rw [hl]; exact hj j (by simp)
      have hv : (nums k l).toArray[j * 1]? = some (.int k (l.getD j 0)) := by
        rw [Nat.mul_one, List.getElem?_toArray, nums, List.getElem?_map, List.getElem?_eq_getElem hjn, List.getD_eq_getElem?_getD, List.getElem?_eq_getElem hjn]; rfl
      have hp := run_part_num (P := P) he hz (j * 1) _ hv w
      have hq : (Op.equalIn (d + 1) e (.int k (l.getD j 0)) (.int k (l.getD j 0))).run P w = .ok true w := by
        simp [Op.equalIn, run_underlying he]
      simp only [Op.eqItems, Sem.run_bind, hp, Result.andThen_ok, hq]
      simpa using ih (fun q hq => hj q (by simp [hq]))
  have h := run_equalIn_array (P := P) (w := w) (d + 1) (nums k l).toArray (nums k l).toArray hu hi
  rw [hc, hE _ (fun j hj => List.mem_range.1 hj)] at h
  exact h
theorem run_eql_nums {P : Program} {t e : TypeId} {n : Nat} {k : IntKind} (l : List Int) (hl : l.length = n) (hu : P.underlying t = some (.array n e)) (he : P.underlying e = some (.int k)) (hz : (P.info? e).map (·.size) = some 1) (w : World) :
    (binOp .eql t (.agg (nums k l).toArray) (.agg (nums k l).toArray)).run P w = .ok (.bool true) w := by
  simp only [binOp]
  simp [Op.equal, Op.maxDepth, run_equalIn_nums 9998 l hl hu he hz w]
end Go.Proofs.Ytmmbbkdbebfhiaa.H
