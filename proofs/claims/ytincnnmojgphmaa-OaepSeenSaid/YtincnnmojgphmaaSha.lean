/- What a block makes of a state: the plain meaning, at whole numbers, in the walks' own words. -/
import Derived.Test.YtincnnmojgphmaaWMore
import Derived.Test.YtincnnmojgphmaaWWords
import Derived.Laws.BitsAllLaws
set_option linter.unusedVariables false
set_option linter.unusedSimpArgs false
namespace Go.Proofs.Ytincnnmojgphmaa.Sha
open Go.RowKit Go.Proofs.YtincnnmojgphmaaW.PrintWords Go.Proofs.YtincnnmojgphmaaW.PrintLast

def inB (b : Nat) (l : List Int) : Prop := ∀ x ∈ l, 0 ≤ x ∧ x < 2 ^ b
theorem inB_getD {b : Nat} {l : List Int} (h : inB b l) (i : Nat) : 0 ≤ l.getD i 0 ∧ l.getD i 0 < 2 ^ b := by
  rw [List.getD_eq_getElem?_getD]
  rcases Nat.lt_or_ge i l.length with hi | hi
  · rw [List.getElem?_eq_getElem hi]; exact h _ (List.getElem_mem hi)
  · rw [List.getElem?_eq_none hi]
    exact ⟨Int.le_refl _, by show (0 : Int) < 2 ^ b; exact Int.pow_pos (by decide)⟩
theorem wrap64_in (x : Int) : 0 ≤ IntKind.u64.wrap x ∧ IntKind.u64.wrap x < 2 ^ 64 := by
  have := IntKind.wrap_u64 x
  omega

/-! ### 64 bits -/
def X6 (a b : Int) : Int := Go.bits .xor .u64 a b
def A6 (a b : Int) : Int := Go.bits .and .u64 a b
def O6 (a b : Int) : Int := Go.bits .or .u64 a b
def P6 (a b : Int) : Int := IntKind.u64.wrap (a + b)
/-- A word turned by n places. -/
def R6 (n : Nat) (x : Int) : Int := O6 (x / 2 ^ n) (IntKind.u64.wrap (x * 2 ^ (64 - n)))
/-- The words that the rounds add. -/
def K6 : List Int := [4794697086780616226, 8158064640168781261, 13096744586834688815, 16840607885511220156, 4131703408338449720, 6480981068601479193, 10538285296894168987, 12329834152419229976, 15566598209576043074, 1334009975649890238, 2608012711638119052, 6128411473006802146, 8268148722764581231, 9286055187155687089, 11230858885718282805, 13951009754708518548, 16472876342353939154, 17275323862435702243, 1135362057144423861, 2597628984639134821, 3308224258029322869, 5365058923640841347, 6679025012923562964, 8573033837759648693, 10970295158949994411, 12119686244451234320, 12683024718118986047, 13788192230050041572, 14330467153632333762, 15395433587784984357, 489312712824947311, 1452737877330783856, 2861767655752347644, 3322285676063803686, 5560940570517711597, 5996557281743188959, 7280758554555802590, 8532644243296465576, 9350256976987008742, 10552545826968843579, 11727347734174303076, 12113106623233404929, 14000437183269869457, 14369950271660146224, 15101387698204529176, 15463397548674623760, 17586052441742319658, 1182934255886127544, 1847814050463011016, 2177327727835720531, 2830643537854262169, 3796741975233480872, 4115178125766777443, 5681478168544905931, 6601373596472566643, 7507060721942968483, 8399075790359081724, 8693463985226723168, 9568029438360202098, 10144078919501101548, 10430055236837252648, 11840083180663258601, 13761210420658862357, 14299343276471374635, 14566680578165727644, 15097957966210449927, 16922976911328602910, 17689382322260857208, 500013540394364858, 748580250866718886, 1242879168328830382, 1977374033974150939, 2944078676154940804, 3659926193048069267, 4368137639120453308, 4836135668995329356, 5532061633213252278, 6448918945643986474, 6902733635092675308, 7801388544844847127]
/-- Bytes as one word. -/
def ld6 (a : Int) (l : List Int) : Int := l.foldl (fun a c => O6 (IntKind.u64.wrap (a * 256)) (IntKind.u64.wrap c)) a
def sch6 (L : List Int) (t : Nat) : Int :=
  P6 (P6 (P6 (L.getD (t - 16) 0) (X6 (X6 (R6 1 (L.getD (t - 15) 0)) (R6 8 (L.getD (t - 15) 0))) (L.getD (t - 15) 0 / 128))) (L.getD (t - 7) 0)) (X6 (X6 (R6 19 (L.getD (t - 2) 0)) (R6 61 (L.getD (t - 2) 0))) (L.getD (t - 2) 0 / 64))
def sched6 (b : List Int) : Nat → List Int
  | 0 => []
  | t + 1 => sched6 b t ++ [if t < 16 then ld6 0 ((b.drop (8 * t)).take 8) else sch6 (sched6 b t) t]
def rnd6 (r : List Int) (k w : Int) : List Int :=
  let e := r.getD 4 0
  let a := r.getD 0 0
  let t1 := P6 (P6 (P6 (P6 (r.getD 7 0) (X6 (X6 (R6 14 e) (R6 18 e)) (R6 41 e))) (X6 (r.getD 6 0) (A6 e (X6 (r.getD 5 0) (r.getD 6 0))))) k) w
  let t2 := P6 (X6 (X6 (R6 28 a) (R6 34 a)) (R6 39 a)) (O6 (A6 a (r.getD 1 0)) (A6 (r.getD 2 0) (O6 a (r.getD 1 0))))
  [P6 t1 t2, a, r.getD 1 0, r.getD 2 0, P6 (r.getD 3 0) t1, e, r.getD 5 0, r.getD 6 0]
def rnds6 (s W : List Int) : Nat → List Int
  | 0 => s
  | t + 1 => rnd6 (rnds6 s W t) (K6.getD t 0) (W.getD t 0)
def blk6 (s b : List Int) : List Int := (List.range 8).map fun i => P6 (s.getD i 0) ((rnds6 s (sched6 b 80) 80).getD i 0)
theorem sched6_length (b : List Int) : ∀ t, (sched6 b t).length = t
  | 0 => rfl
  | t + 1 => by simp [sched6, sched6_length b t]
theorem rnds6_length {s : List Int} (W : List Int) (h : s.length = 8) : ∀ t, (rnds6 s W t).length = 8
  | 0 => h
  | t + 1 => by simp [rnds6, rnd6]
/-- The words so far, the others 0. -/
def sw6 (b : List Int) (t : Nat) : List Int := sched6 b t ++ List.replicate (80 - t) 0
theorem sw6_length (b : List Int) (t : Nat) (h : t ≤ 80) : (sw6 b t).length = 80 := by simp [sw6, sched6_length]; omega
/-- .. the word t being read, j of its bytes there. -/
def sj6 (b : List Int) (t j : Nat) : List Int := sched6 b t ++ [ld6 0 (((b.drop (8 * t)).take 8).take j)] ++ List.replicate (79 - t) 0
theorem sj6_length (b : List Int) (t j : Nat) (h : t < 80) : (sj6 b t j).length = 80 := by simp [sj6, sched6_length]; omega
theorem sched6_getD (b : List Int) (t i : Nat) (h : i < t) : (sw6 b t).getD i 0 = (sched6 b t).getD i 0 := by
  rw [sw6, List.getD_eq_getElem?_getD, List.getD_eq_getElem?_getD, List.getElem?_append_left (by rw [sched6_length]; exact h)]
theorem set_at (A : List Int) (n : Nat) (v : Int) (h : 0 < n) : (A ++ List.replicate n 0).set A.length v = A ++ [v] ++ List.replicate (n - 1) 0 := by
  obtain ⟨m, rfl⟩ : ∃ m, n = m + 1 := ⟨n - 1, by omega⟩
  rw [List.set_append_right _ _ (Nat.le_refl _), Nat.sub_self, List.replicate_succ]
  simp
theorem sw6_step (b : List Int) (k : Nat) (h16 : ¬ k < 16) (hk : k < 80) : (sw6 b k).set k (sch6 (sw6 b k) k) = sw6 b (k + 1) := by
  have e : sch6 (sw6 b k) k = sch6 (sched6 b k) k := by
    unfold sch6
    rw [sched6_getD b k (k - 16) (by omega), sched6_getD b k (k - 15) (by omega), sched6_getD b k (k - 7) (by omega), sched6_getD b k (k - 2) (by omega)]
  rw [e]
  have := set_at (sched6 b k) (80 - k) (sch6 (sched6 b k) k) (by omega)
  rw [sched6_length] at this
  rw [sw6, this, sw6, sched6, if_neg h16, show 80 - k - 1 = 80 - (k + 1) by omega]
theorem sj6_start (b : List Int) (k : Nat) (hk : k < 80) : sw6 b k = sj6 b k 0 := by
  rw [sw6, sj6, show 80 - k = (79 - k) + 1 by omega, List.replicate_succ]
  simp [ld6]
theorem sj6_end (b : List Int) (k : Nat) (h16 : k < 16) : sj6 b k 8 = sw6 b (k + 1) := by
  rw [sj6, sw6, sched6, if_pos h16, show 80 - (k + 1) = 79 - k by omega, List.take_of_length_le (by simp; omega)]
theorem sj6_step (b : List Int) (k j : Nat) (hk : k < 16) (hj : j < 8) (hb : b.length = 128) :
    (sj6 b k j).set k (O6 (IntKind.u64.wrap ((sj6 b k j).getD k 0 * 256)) (IntKind.u64.wrap (b.getD (8 * k + j) 0))) = sj6 b k (j + 1) := by
  have hg : (sj6 b k j).getD k 0 = ld6 0 (((b.drop (8 * k)).take 8).take j) := by
    rw [sj6, List.append_assoc, List.getD_eq_getElem?_getD, List.getElem?_append_right (by rw [sched6_length]; exact Nat.le_refl _), sched6_length]
    simp
  have ht : ((b.drop (8 * k)).take 8).take (j + 1) = ((b.drop (8 * k)).take 8).take j ++ [b.getD (8 * k + j) 0] := by
    rw [List.take_add_one, List.getElem?_take_of_lt hj, List.getElem?_drop, List.getElem?_eq_getElem (by omega), List.getD_eq_getElem?_getD, List.getElem?_eq_getElem (by omega)]
    rfl
  rw [hg]
  conv => rhs; rw [sj6, ht, ld6, List.foldl_append]
  rw [sj6, List.append_assoc, List.set_append_right _ _ (by rw [sched6_length]; exact Nat.le_refl _), sched6_length, Nat.sub_self]
  simp [ld6]
/-- The state, its first t words with the turned ones added. -/
def sm6 (s r : List Int) (t : Nat) : List Int := (List.range 8).map fun i => if i < t then P6 (s.getD i 0) (r.getD i 0) else s.getD i 0
theorem sm6_length (s r : List Int) (t : Nat) : (sm6 s r t).length = 8 := by simp [sm6]
theorem sm6_zero (s r : List Int) (h : s.length = 8) : sm6 s r 0 = s := by
  apply List.ext_getElem
  · rw [sm6_length, h]
  · intro j h1 h2
    simp [sm6, List.getElem?_eq_getElem h2]
theorem sm6_step (s r : List Int) (t : Nat) (h : t < 8) : (sm6 s r t).set t (P6 ((sm6 s r t).getD t 0) (r.getD t 0)) = sm6 s r (t + 1) := by
  have hg : (sm6 s r t).getD t 0 = s.getD t 0 := by
    rw [List.getD_eq_getElem?_getD, List.getElem?_eq_getElem (by rw [sm6_length]; exact h)]
    simp [sm6]
  rw [hg]
  apply List.ext_getElem
  · simp [sm6]
  · intro j h1 h2
    rw [List.getElem_set]
    simp only [sm6, List.getElem_map, List.getElem_range]
    by_cases hj : t = j
    · subst hj; simp
    · rw [if_neg hj]
      by_cases h3 : j < t
      · rw [if_pos h3, if_pos (by omega)]
      · rw [if_neg h3, if_neg (by omega)]
theorem sm6_all (s r : List Int) : sm6 s r 8 = (List.range 8).map fun i => P6 (s.getD i 0) (r.getD i 0) := by
  simp only [sm6]
  apply List.map_congr_left
  intro j hj
  rw [List.mem_range] at hj
  rw [if_pos hj]
end Go.Proofs.Ytincnnmojgphmaa.Sha
