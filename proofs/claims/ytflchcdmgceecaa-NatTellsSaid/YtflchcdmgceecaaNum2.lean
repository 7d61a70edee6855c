/- Bytes as numbers, the highest ahead; lists of the model's integers and lists of natural numbers: plain facts. -/
import Derived.Test.YtflchcdmgceecaaNum
import Derived.Test.YtflchcdmgceecaaWWords
set_option linter.unusedVariables false
set_option linter.unusedSimpArgs false
namespace Go.Proofs.Ytflchcdmgceecaa.Num
open Go.RowKit Go.Proofs.YtflchcdmgceecaaW.PrintWords

/-- All in 0 .. 2^b - 1. -/
def inB (b : Nat) (l : List Int) : Prop := ∀ x ∈ l, 0 ≤ x ∧ x < 2 ^ b
instance (b : Nat) (l : List Int) : Decidable (inB b l) := inferInstanceAs (Decidable (∀ x ∈ l, _))
def nats (l : List Int) : List Nat := l.map Int.toNat
def ints (l : List Nat) : List Int := l.map Int.ofNat
theorem nats_length (l : List Int) : (nats l).length = l.length := by simp [nats]
theorem ints_length (l : List Nat) : (ints l).length = l.length := by simp [ints]
theorem nats_ints (l : List Nat) : nats (ints l) = l := by simp [nats, ints, Function.comp_def]
theorem inB_nil (b : Nat) : inB b [] := fun _ h => by cases h
theorem inB_ints {b : Nat} {l : List Nat} (h : ok b l) : inB b (ints l) := by
  intro x hx
  obtain ⟨y, hy, rfl⟩ := List.mem_map.1 hx
  have := h y hy
  refine ⟨Int.natCast_nonneg _, ?_⟩
  show ((y : Nat) : Int) < 2 ^ b
  exact_mod_cast this
theorem ok_nats {b : Nat} {l : List Int} (h : inB b l) : ok b (nats l) := by
  intro x hx
  obtain ⟨y, hy, rfl⟩ := List.mem_map.1 hx
  have := h y hy
  have h2 : ((y.toNat : Nat) : Int) < ((2 ^ b : Nat) : Int) := by
    rw [Int.toNat_of_nonneg this.1]
    simpa using this.2
  exact_mod_cast h2
theorem ints_nats {b : Nat} {l : List Int} (h : inB b l) : ints (nats l) = l := by
  simp only [ints, nats, List.map_map]
  refine (List.map_congr_left fun x hx => ?_).trans (List.map_id l)
  exact Int.toNat_of_nonneg (h x hx).1
theorem inB_of_wf_u64 {l : List Int} (h : ∀ x ∈ l, (Lit.int .u64 x).wf = true) : inB 64 l := by
  intro x hx
  have := h x hx
  simp [Lit.wf, IntKind.min, IntKind.max, IntKind.signed, IntKind.bits] at this
  omega
theorem inB_of_wf_u8 {l : List Int} (h : ∀ x ∈ l, (Lit.int .u8 x).wf = true) : inB 8 l := by
  intro x hx
  have := h x hx
  simp [Lit.wf, IntKind.min, IntKind.max, IntKind.signed, IntKind.bits] at this
  omega
theorem rd_inB {b : Nat} {l : List Int} (h : inB b l) (i : Int) : 0 ≤ rd l i ∧ rd l i < 2 ^ b := by
  unfold rd
  rw [List.getD_eq_getElem?_getD]
  by_cases hi : i.toNat < l.length
  · rw [List.getElem?_eq_getElem hi]
    exact h _ (List.getElem_mem hi)
  · rw [List.getElem?_eq_none (by omega)]
    have := Int.pow_pos (n := 2) (m := b) (by decide)
    simpa using this
theorem rd_nats {b : Nat} {l : List Int} (h : inB b l) (i : Int) : rd l i = (((nats l).getD i.toNat 0 : Nat) : Int) := by
  unfold rd nats
  rw [List.getD_eq_getElem?_getD, List.getD_eq_getElem?_getD, List.getElem?_map]
  by_cases hi : i.toNat < l.length
  · rw [List.getElem?_eq_getElem hi]
    simp only [Option.map_some, Option.getD_some]
    exact (Int.toNat_of_nonneg (h _ (List.getElem_mem hi)).1).symm
  · rw [List.getElem?_eq_none (by omega)]
    rfl
theorem rd_ints (l : List Nat) (i : Int) : rd (ints l) i = ((l.getD i.toNat 0 : Nat) : Int) := by
  unfold rd ints
  rw [List.getD_eq_getElem?_getD, List.getD_eq_getElem?_getD, List.getElem?_map]
  cases l[i.toNat]? <;> rfl
theorem inB_take {b : Nat} {l : List Int} (h : inB b l) (n : Nat) : inB b (l.take n) := fun x hx => h x (List.mem_of_mem_take hx)
theorem inB_drop {b : Nat} {l : List Int} (h : inB b l) (n : Nat) : inB b (l.drop n) := fun x hx => h x (List.mem_of_mem_drop hx)
theorem inB_append {b : Nat} {l m : List Int} : inB b (l ++ m) ↔ inB b l ∧ inB b m := by
  unfold inB
  simp only [List.mem_append]
  exact ⟨fun h => ⟨fun x hx => h x (.inl hx), fun x hx => h x (.inr hx)⟩, fun h x hx => hx.elim (h.1 x) (h.2 x)⟩
theorem inB_set {b : Nat} {l : List Int} (h : inB b l) (i : Nat) (x : Int) (h0 : 0 ≤ x) (hx : x < 2 ^ b) : inB b (l.set i x) := by
  intro y hy
  rcases List.mem_or_eq_of_mem_set hy with h' | rfl
  · exact h y h'
  · exact ⟨h0, hx⟩

/-- The number of bytes, the highest ahead. -/
def be (l : List Int) : Nat := val 8 (nats l).reverse
theorem be_nil : be [] = 0 := rfl
theorem be_snoc (l : List Int) (x : Int) : be (l ++ [x]) = x.toNat + 256 * be l := by
  simp [be, nats, val]
theorem be_append (l m : List Int) : be (l ++ m) = be m + 256 ^ m.length * be l := by
  unfold be nats
  rw [List.map_append, List.reverse_append, val_append, List.length_reverse, List.length_map, Nat.pow_mul]
theorem be_lt {l : List Int} (h : inB 8 l) : be l < 256 ^ l.length := by
  have h1 : ok 8 (nats l).reverse := fun x hx => ok_nats h x (List.mem_reverse.1 hx)
  have := val_lt h1
  rw [List.length_reverse, nats_length, Nat.pow_mul] at this
  exact this
theorem be_take_succ (l : List Int) (k : Nat) (h : k < l.length) : be (l.take (k + 1)) = (rd l k).toNat + 256 * be (l.take k) := by
  have : l.take (k + 1) = l.take k ++ [rd l k] := by
    rw [List.take_succ_eq_append_getElem h]
    simp [rd, List.getD_eq_getElem?_getD, List.getElem?_eq_getElem h]
  rw [this, be_snoc]
end Go.Proofs.Ytflchcdmgceecaa.Num
