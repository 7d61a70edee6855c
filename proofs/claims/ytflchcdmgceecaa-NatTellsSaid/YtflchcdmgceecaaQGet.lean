/- What word.Get's printed text answers: the number of up to eight bytes. -/
import Derived.Test.YtflchcdmgceecaaPAx
import Derived.Test.YtflchcdmgceecaaNum2
set_option linter.unusedVariables false
set_option linter.unusedSimpArgs false
namespace Go.Proofs.Ytflchcdmgceecaa.Q
open Go.RowKit Go.Proofs.Ytflchcdmgceecaa.PA Go.Proofs.YtflchcdmgceecaaW.PrintWords Go.Proofs.YtflchcdmgceecaaW.PrintLast Go.Proofs.Ytflchcdmgceecaa.Num

theorem wrap64_small {x : Int} (h0 : 0 ≤ x) (h : x < 9223372036854775807) : wrap64 (x + 1) = x + 1 := by
  unfold wrap64
  omega

/-- One byte more behind. -/
theorem or_byte (A b : Nat) (hA : A < 72057594037927936) (hb : b < 256) : Go.bits .or .u64 (IntKind.u64.wrap ((A : Int) * 256)) (IntKind.u64.wrap (b : Int)) = ((b + 256 * A : Nat) : Int) := by
  have e1 : IntKind.u64.wrap ((A : Int) * 256) = ((A * 256 : Nat) : Int) := by rw [IntKind.wrap_u64, Int.natCast_mul]; omega
  have e2 : IntKind.u64.wrap (b : Int) = (b : Int) := by rw [IntKind.wrap_u64]; omega
  rw [e1, e2, u64_or_nat _ _ (by omega) (by omega), nat_join 8 (A * 256) b (by omega) (by omega)]
  congr 1
  omega

theorem get_loop (l : List Int) (h : inB 8 l) (hl : l.length ≤ 8) (d : Nat) : ∀ (k i : Nat), i + d = l.length → d < k → word_Get.l0 k l (be (l.take i) : Nat) l.length i = some ((be l : Nat) : Int) := by
  induction d with
  | zero =>
    intro k i hi hk
    obtain ⟨k, rfl⟩ : ∃ m, k = m + 1 := ⟨k - 1, by omega⟩
    simp only [word_Get.l0]
    rw [if_neg (by omega), List.take_of_length_le (by omega)]
  | succ d ih =>
    intro k i hi hk
    obtain ⟨k, rfl⟩ : ∃ m, k = m + 1 := ⟨k - 1, by omega⟩
    simp only [word_Get.l0]
    have hb := be_lt (inB_take h i)
    rw [List.length_take, Nat.min_eq_left (by omega)] at hb
    have hA : be (l.take i) < 72057594037927936 := Nat.lt_of_lt_of_le hb (Nat.le_trans (Nat.pow_le_pow_right (by decide) (show i ≤ 7 by omega)) (by decide))
    have hr := rd_inB h (i : Int)
    have hr2 : rd l (i : Int) = ((rd l (i : Int)).toNat : Int) := (Int.toNat_of_nonneg hr.1).symm
    rw [if_pos (by omega), if_pos (by omega), if_pos (by omega), hr2, or_byte _ _ hA (by omega), wrap64_small (by omega) (by omega)]
    have := ih k (i + 1) (by omega) (by omega)
    rw [be_take_succ l i (by omega)] at this
    exact this

theorem get_spec (l : List Int) (h : inB 8 l) (hl : l.length ≤ 8) (k : Nat) (hk : 8 < k) : word_Get.f k l = some ((be l : Nat) : Int) := by
  unfold word_Get.f
  rw [show mn (l.length : Int) 8 = (l.length : Int) by unfold mn; omega]
  exact get_loop l h hl l.length k 0 (by omega) (by omega)
end Go.Proofs.Ytflchcdmgceecaa.Q
