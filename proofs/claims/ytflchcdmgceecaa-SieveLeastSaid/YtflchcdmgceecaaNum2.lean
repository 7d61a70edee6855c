/- Numbers as lists of digits: plain facts, no program in sight. -/
import Derived.Test.YtflchcdmgceecaaWWords
set_option linter.unusedVariables false
set_option linter.unusedSimpArgs false
namespace Go.Proofs.Ytflchcdmgceecaa.Num

theorem pow_pos' (n : Nat) : 0 < 2 ^ n := Nat.pow_pos (by decide)

/-- The number of a list of digits of b bits, the lowest ahead. -/
def val (b : Nat) : List Nat → Nat
  | [] => 0
  | x :: l => x + 2 ^ b * val b l

/-- n digits of b bits. -/
def digs (b : Nat) : Nat → Nat → List Nat
  | 0, _ => []
  | n + 1, v => v % 2 ^ b :: digs b n (v / 2 ^ b)

def ok (b : Nat) (l : List Nat) : Prop := ∀ x ∈ l, x < 2 ^ b

/-- How many bits a number has. -/
def bitlen (v : Nat) : Nat := if v = 0 then 0 else Nat.log2 v + 1

theorem lt_pow_iff (v n : Nat) : v < 2 ^ n ↔ bitlen v ≤ n := by
  unfold bitlen
  split
  · rename_i h
    subst h
    exact ⟨fun _ => Nat.zero_le _, fun _ => pow_pos' n⟩
  · rename_i h
    rw [← Nat.log2_lt h]
    omega

theorem lt_bitlen (v : Nat) : v < 2 ^ bitlen v := (lt_pow_iff v _).2 (Nat.le_refl _)
theorem bitlen_le {v n : Nat} (h : v < 2 ^ n) : bitlen v ≤ n := (lt_pow_iff v n).1 h
theorem bitlen_zero : bitlen 0 = 0 := rfl
theorem bitlen_pos {v : Nat} (h : v ≠ 0) : 0 < bitlen v := by unfold bitlen; rw [if_neg h]; omega
theorem pow_le_of_bitlen {v n : Nat} (h : n < bitlen v) : 2 ^ n ≤ v := by
  refine Nat.le_of_not_lt fun h' => ?_
  have := bitlen_le h'
  omega
theorem bitlen_eq {v n : Nat} (h1 : 2 ^ n ≤ v) (h2 : v < 2 ^ (n + 1)) : bitlen v = n + 1 := by
  have a := bitlen_le h2
  refine Nat.le_antisymm a (Nat.le_of_not_lt fun h => ?_)
  have : v < 2 ^ n := (lt_pow_iff v n).2 (by omega)
  omega
theorem bitlen_eq_zero {v : Nat} : bitlen v = 0 ↔ v = 0 := by
  constructor
  · intro h
    have := lt_bitlen v
    rw [h] at this
    simpa using this
  · rintro rfl; rfl
theorem bitlen_mono {a b : Nat} (h : a ≤ b) : bitlen a ≤ bitlen b := bitlen_le (Nat.lt_of_le_of_lt h (lt_bitlen b))

theorem ok_nil (b : Nat) : ok b [] := fun _ h => by cases h
theorem ok_cons {b x : Nat} {l : List Nat} : ok b (x :: l) ↔ x < 2 ^ b ∧ ok b l := by
  unfold ok
  simp
theorem ok_append {b : Nat} {l m : List Nat} : ok b (l ++ m) ↔ ok b l ∧ ok b m := by
  unfold ok
  simp only [List.mem_append]
  exact ⟨fun h => ⟨fun x hx => h x (.inl hx), fun x hx => h x (.inr hx)⟩, fun h x hx => hx.elim (h.1 x) (h.2 x)⟩
theorem ok_take {b : Nat} {l : List Nat} (h : ok b l) (n : Nat) : ok b (l.take n) := fun x hx => h x (List.mem_of_mem_take hx)
theorem ok_drop {b : Nat} {l : List Nat} (h : ok b l) (n : Nat) : ok b (l.drop n) := fun x hx => h x (List.mem_of_mem_drop hx)
theorem ok_getD {b : Nat} {l : List Nat} (h : ok b l) (i : Nat) : l.getD i 0 < 2 ^ b := by
  rw [List.getD_eq_getElem?_getD]
  by_cases hi : i < l.length
  · rw [List.getElem?_eq_getElem hi]
    exact h _ (List.getElem_mem hi)
  · rw [List.getElem?_eq_none (by omega)]
    exact pow_pos' b
theorem ok_set {b : Nat} {l : List Nat} (h : ok b l) (i x : Nat) (hx : x < 2 ^ b) : ok b (l.set i x) := by
  intro y hy
  rcases List.mem_or_eq_of_mem_set hy with h' | rfl
  · exact h y h'
  · exact hx

theorem val_nil (b : Nat) : val b [] = 0 := rfl
theorem val_cons (b x : Nat) (l : List Nat) : val b (x :: l) = x + 2 ^ b * val b l := rfl
theorem val_append (b : Nat) (l m : List Nat) : val b (l ++ m) = val b l + 2 ^ (b * l.length) * val b m := by
  induction l with
  | nil => simp [val]
  | cons x l ih =>
    simp only [List.cons_append, val, ih, List.length_cons, Nat.mul_add, Nat.mul_one, Nat.pow_add]
    rw [Nat.mul_comm (2 ^ (b * l.length)) (2 ^ b), Nat.mul_assoc]
    omega
theorem val_zeros (b n : Nat) : val b (List.replicate n 0) = 0 := by
  induction n with
  | zero => rfl
  | succ n ih => simp [List.replicate_succ, val, ih]
theorem val_lt {b : Nat} {l : List Nat} (h : ok b l) : val b l < 2 ^ (b * l.length) := by
  induction l with
  | nil => simp [val]
  | cons x l ih =>
    obtain ⟨hx, hl⟩ := ok_cons.1 h
    have := ih hl
    simp only [val, List.length_cons, Nat.mul_add, Nat.mul_one, Nat.pow_add]
    rw [Nat.mul_comm (2 ^ (b * l.length)) (2 ^ b)]
    have : 2 ^ b * (val b l + 1) ≤ 2 ^ b * 2 ^ (b * l.length) := Nat.mul_le_mul_left _ this
    rw [Nat.mul_add, Nat.mul_one] at this
    omega

theorem digs_length (b n v : Nat) : (digs b n v).length = n := by
  induction n generalizing v with
  | zero => rfl
  | succ n ih => simp [digs, ih]
theorem digs_ok (b n v : Nat) : ok b (digs b n v) := by
  induction n generalizing v with
  | zero => exact ok_nil b
  | succ n ih => exact ok_cons.2 ⟨Nat.mod_lt _ (pow_pos' b), ih _⟩
theorem val_digs (b n v : Nat) : val b (digs b n v) = v % 2 ^ (b * n) := by
  induction n generalizing v with
  | zero => simp [digs, val, Nat.mod_one]
  | succ n ih =>
    simp only [digs, val, ih]
    rw [Nat.mul_add, Nat.mul_one, Nat.add_comm (b * n) b, Nat.pow_add, Nat.mod_mul]
theorem val_digs_lt {b n v : Nat} (h : v < 2 ^ (b * n)) : val b (digs b n v) = v := by rw [val_digs, Nat.mod_eq_of_lt h]
theorem digs_val {b : Nat} {l : List Nat} (h : ok b l) : digs b l.length (val b l) = l := by
  induction l with
  | nil => rfl
  | cons x l ih =>
    obtain ⟨hx, hl⟩ := ok_cons.1 h
    simp only [List.length_cons, digs, val]
    rw [Nat.add_mul_mod_self_left, Nat.mod_eq_of_lt hx, Nat.add_mul_div_left _ _ (pow_pos' b), Nat.div_eq_of_lt hx, Nat.zero_add, ih hl]
theorem digs_mod (b n v : Nat) : digs b n (v % 2 ^ (b * n)) = digs b n v := by
  have := digs_val (digs_ok b n v)
  rw [digs_length, val_digs] at this
  exact this
theorem digs_zero (b n : Nat) : digs b n 0 = List.replicate n 0 := by
  induction n with
  | zero => rfl
  | succ n ih => simp [digs, List.replicate_succ, ih]
theorem ext_val {b : Nat} {l m : List Nat} (hl : ok b l) (hm : ok b m) (hlen : l.length = m.length) (h : val b l = val b m) : l = m := by
  rw [← digs_val hl, ← digs_val hm, hlen, h]
theorem getD_val {b : Nat} {l : List Nat} (h : ok b l) (i : Nat) : l.getD i 0 = val b l / 2 ^ (b * i) % 2 ^ b := by
  induction l generalizing i with
  | nil => simp [val]
  | cons x l ih =>
    obtain ⟨hx, hl⟩ := ok_cons.1 h
    cases i with
    | zero => simp [val, Nat.mod_eq_of_lt hx]
    | succ i =>
      rw [List.getD_cons_succ, ih hl]
      simp only [val]
      rw [Nat.mul_add, Nat.mul_one, Nat.add_comm (b * i) b, Nat.pow_add, ← Nat.div_div_eq_div_mul, Nat.add_mul_div_left _ _ (pow_pos' b), Nat.div_eq_of_lt hx, Nat.zero_add]
theorem getD_digs (b n v i : Nat) (h : i < n) : (digs b n v).getD i 0 = v / 2 ^ (b * i) % 2 ^ b := by
  induction n generalizing v i with
  | zero => omega
  | succ n ih =>
    cases i with
    | zero => simp [digs]
    | succ i =>
      rw [digs, List.getD_cons_succ, ih _ _ (by omega), Nat.div_div_eq_div_mul, ← Nat.pow_add, Nat.mul_add, Nat.mul_one, Nat.add_comm (b * i) b]
theorem digs_append (b n m v : Nat) : digs b (n + m) v = digs b n v ++ digs b m (v / 2 ^ (b * n)) := by
  induction n generalizing v with
  | zero => simp [digs]
  | succ n ih =>
    rw [Nat.add_right_comm, digs, ih, digs, List.cons_append, Nat.div_div_eq_div_mul, ← Nat.pow_add, Nat.mul_add, Nat.mul_one, Nat.add_comm (b * n) b]
theorem digs_take (b n m v : Nat) (h : m ≤ n) : (digs b n v).take m = digs b m v := by
  obtain ⟨k, rfl⟩ := Nat.exists_eq_add_of_le h
  rw [digs_append, List.take_append_of_le_length (by rw [digs_length]; omega), List.take_of_length_le (by rw [digs_length]; omega)]
theorem digs_snoc (b n v : Nat) : digs b (n + 1) v = digs b n v ++ [v / 2 ^ (b * n) % 2 ^ b] := by
  rw [digs_append]
  rfl
theorem val_take {b : Nat} {l : List Nat} (h : ok b l) (n : Nat) : val b (l.take n) = val b l % 2 ^ (b * n) := by
  by_cases hn : n ≤ l.length
  · have e := digs_take b l.length n (val b l) hn
    rw [digs_val h] at e
    rw [e, val_digs]
  · rw [List.take_of_length_le (by omega), Nat.mod_eq_of_lt]
    exact Nat.lt_of_lt_of_le (val_lt h) (Nat.pow_le_pow_right (by decide) (Nat.mul_le_mul_left _ (by omega)))
theorem val_drop {b : Nat} {l : List Nat} (h : ok b l) (n : Nat) : val b (l.drop n) = val b l / 2 ^ (b * n) := by
  by_cases hn : n ≤ l.length
  · have e := val_append b (l.take n) (l.drop n)
    rw [List.take_append_drop, List.length_take, Nat.min_eq_left hn] at e
    rw [e, Nat.add_mul_div_left _ _ (pow_pos' _), Nat.div_eq_of_lt, Nat.zero_add]
    have := val_lt (ok_take h n)
    rwa [List.length_take, Nat.min_eq_left hn] at this
  · rw [List.drop_of_length_le (by omega), val_nil, Nat.div_eq_of_lt]
    exact Nat.lt_of_lt_of_le (val_lt h) (Nat.pow_le_pow_right (by decide) (Nat.mul_le_mul_left _ (by omega)))

/-! ### How many digits a number needs; its own digits -/
def need (b v : Nat) : Nat := (bitlen v + (b - 1)) / b
theorem need_spec {b : Nat} (hb : 0 < b) (v n : Nat) : need b v ≤ n ↔ v < 2 ^ (b * n) := by
  rw [lt_pow_iff]
  unfold need
  rw [Nat.div_le_iff_le_mul_add_pred hb]
  omega
theorem lt_need {b : Nat} (hb : 0 < b) (v : Nat) : v < 2 ^ (b * need b v) := (need_spec hb v _).1 (Nat.le_refl _)
theorem need_le {b : Nat} (hb : 0 < b) {v n : Nat} (h : v < 2 ^ (b * n)) : need b v ≤ n := (need_spec hb v n).2 h
theorem need_zero {b : Nat} (hb : 0 < b) : need b 0 = 0 := Nat.le_zero.1 (need_le hb (by simp))
theorem need_pos {b : Nat} (hb : 0 < b) {v : Nat} (h : v ≠ 0) : 0 < need b v := by
  refine Nat.pos_of_ne_zero fun e => h ?_
  have := lt_need hb v
  rw [e] at this
  simpa using this
theorem pow_le_of_need {b : Nat} (hb : 0 < b) {v n : Nat} (h : n < need b v) : 2 ^ (b * n) ≤ v :=
  Nat.le_of_not_lt fun h' => by have := need_le hb h'; omega
def own (b v : Nat) : List Nat := digs b (need b v) v
theorem own_length (b v : Nat) : (own b v).length = need b v := digs_length _ _ _
theorem own_ok (b v : Nat) : ok b (own b v) := digs_ok _ _ _
theorem val_own {b : Nat} (hb : 0 < b) (v : Nat) : val b (own b v) = v := val_digs_lt (lt_need hb v)
theorem own_zero {b : Nat} (hb : 0 < b) : own b 0 = [] := by rw [own, need_zero hb]; rfl
theorem getD_own {b : Nat} (hb : 0 < b) (v i : Nat) : (own b v).getD i 0 = v / 2 ^ (b * i) % 2 ^ b := by
  rw [getD_val (own_ok b v), val_own hb]
theorem own_top {b : Nat} (hb : 0 < b) {v : Nat} (h : v ≠ 0) : (own b v).getD (need b v - 1) 0 ≠ 0 := by
  have hp := need_pos hb h
  rw [getD_own hb]
  have h1 : 2 ^ (b * (need b v - 1)) ≤ v := pow_le_of_need hb (by omega)
  have h2 : v / 2 ^ (b * (need b v - 1)) < 2 ^ b := by
    rw [Nat.div_lt_iff_lt_mul (pow_pos' _), ← Nat.pow_add]
    have := lt_need hb v
    have e : b + b * (need b v - 1) = b * need b v := by
      obtain ⟨m, hm⟩ : ∃ m, need b v = m + 1 := ⟨need b v - 1, by omega⟩
      rw [hm, Nat.add_sub_cancel, Nat.mul_add, Nat.mul_one, Nat.add_comm]
    rwa [e]
  rw [Nat.mod_eq_of_lt h2]
  have := Nat.div_pos h1 (pow_pos' (b * (need b v - 1)))
  omega
/-- A list of digits whose highest isn't 0 is its number's own. -/
theorem own_val {b : Nat} (hb : 0 < b) {l : List Nat} (h : ok b l) (ht : l = [] ∨ l.getD (l.length - 1) 0 ≠ 0) : own b (val b l) = l := by
  have hn : need b (val b l) = l.length := by
    refine Nat.le_antisymm (need_le hb (val_lt h)) (Nat.le_of_not_lt fun hlt => ?_)
    rcases ht with rfl | ht
    · simp at hlt
    · apply ht
      rw [getD_val h, Nat.div_eq_of_lt, Nat.zero_mod]
      exact (need_spec hb _ _).1 (by omega)
  rw [own, hn, digs_val h]
theorem own_take {b : Nat} (hb : 0 < b) {l : List Nat} (h : ok b l) : l.take (need b (val b l)) = own b (val b l) := by
  have e := digs_take b l.length (need b (val b l)) (val b l) (need_le hb (val_lt h))
  rw [digs_val h] at e
  exact e

/-- Adding noughts at the top changes nothing. -/
theorem digs_ext (b n m v : Nat) (h : v < 2 ^ (b * n)) : digs b (n + m) v = digs b n v ++ List.replicate m 0 := by
  rw [digs_append, Nat.div_eq_of_lt h, digs_zero]
theorem own_inj {b : Nat} (hb : 0 < b) {u v : Nat} (h : own b u = own b v) : u = v := by
  rw [← val_own hb u, ← val_own hb v, h]

end Go.Proofs.Ytflchcdmgceecaa.Num

set_option linter.unusedVariables false
set_option linter.unusedSimpArgs false
namespace Go.Proofs.Ytflchcdmgceecaa.Num
open Go.RowKit Go.Proofs.YtflchcdmgceecaaW.PrintWords

/-- All in 0 .. 2^b - 1. -/
def inB (b : Nat) (l : List Int) : Prop := ∀ x ∈ l, 0 ≤ x ∧ x < 2 ^ b
instance (b : Nat) (l : List Int) : Decidable (inB b l) := inferInstanceAs (Decidable (∀ x ∈ l, _))
def nats (l : List Int) : List Nat := l.map Int.toNat
def ints (l : List Nat) : List Int := l.map Int.ofNat
theorem nats_length (l : List Int) : (nats l).length = l.length := by simp [nats]
theorem ints_length (l : List Nat) : (ints l).length = l.length := by simp [ints]
theorem nats_ints (l : List Nat) : nats (ints l) = l := by simp [nats, ints, Function.comp_def]
theorem inB_nil (b : Nat) : inB b [] := fun _ h => by cases h
theorem inB_ints {b : Nat} {l : List Nat} (h : ok b l) : inB b (ints l) := by
  intro x hx
  obtain ⟨y, hy, rfl⟩ := List.mem_map.1 hx
  have := h y hy
  refine ⟨Int.natCast_nonneg _, ?_⟩
  show ((y : Nat) : Int) < 2 ^ b
  exact_mod_cast this
theorem ok_nats {b : Nat} {l : List Int} (h : inB b l) : ok b (nats l) := by
  intro x hx
  obtain ⟨y, hy, rfl⟩ := List.mem_map.1 hx
  have := h y hy
  have h2 : ((y.toNat : Nat) : Int) < ((2 ^ b : Nat) : Int) := by
    rw [Int.toNat_of_nonneg this.1]
    simpa using this.2
  exact_mod_cast h2
theorem ints_nats {b : Nat} {l : List Int} (h : inB b l) : ints (nats l) = l := by
  simp only [ints, nats, List.map_map]
  refine (List.map_congr_left fun x hx => ?_).trans (List.map_id l)
  exact Int.toNat_of_nonneg (h x hx).1
theorem inB_of_wf_u64 {l : List Int} (h : ∀ x ∈ l, (Lit.int .u64 x).wf = true) : inB 64 l := by
  intro x hx
  have := h x hx
  simp [Lit.wf, IntKind.min, IntKind.max, IntKind.signed, IntKind.bits] at this
  omega
theorem inB_of_wf_u8 {l : List Int} (h : ∀ x ∈ l, (Lit.int .u8 x).wf = true) : inB 8 l := by
  intro x hx
  have := h x hx
  simp [Lit.wf, IntKind.min, IntKind.max, IntKind.signed, IntKind.bits] at this
  omega
theorem rd_inB {b : Nat} {l : List Int} (h : inB b l) (i : Int) : 0 ≤ rd l i ∧ rd l i < 2 ^ b := by
  unfold rd
  rw [List.getD_eq_getElem?_getD]
  by_cases hi : i.toNat < l.length
  · rw [List.getElem?_eq_getElem hi]
    exact h _ (List.getElem_mem hi)
  · rw [List.getElem?_eq_none (by omega)]
    have := Int.pow_pos (n := 2) (m := b) (by decide)
    simpa using this
theorem rd_nats {b : Nat} {l : List Int} (h : inB b l) (i : Int) : rd l i = (((nats l).getD i.toNat 0 : Nat) : Int) := by
  unfold rd nats
  rw [List.getD_eq_getElem?_getD, List.getD_eq_getElem?_getD, List.getElem?_map]
  by_cases hi : i.toNat < l.length
  · rw [List.getElem?_eq_getElem hi]
    simp only [Option.map_some, Option.getD_some]
    exact (Int.toNat_of_nonneg (h _ (List.getElem_mem hi)).1).symm
  · rw [List.getElem?_eq_none (by omega)]
    rfl
theorem rd_ints (l : List Nat) (i : Int) : rd (ints l) i = ((l.getD i.toNat 0 : Nat) : Int) := by
  unfold rd ints
  rw [List.getD_eq_getElem?_getD, List.getD_eq_getElem?_getD, List.getElem?_map]
  cases l[i.toNat]? <;> rfl
theorem inB_take {b : Nat} {l : List Int} (h : inB b l) (n : Nat) : inB b (l.take n) := fun x hx => h x (List.mem_of_mem_take hx)
theorem inB_drop {b : Nat} {l : List Int} (h : inB b l) (n : Nat) : inB b (l.drop n) := fun x hx => h x (List.mem_of_mem_drop hx)
theorem inB_append {b : Nat} {l m : List Int} : inB b (l ++ m) ↔ inB b l ∧ inB b m := by
  unfold inB
  simp only [List.mem_append]
  exact ⟨fun h => ⟨fun x hx => h x (.inl hx), fun x hx => h x (.inr hx)⟩, fun h x hx => hx.elim (h.1 x) (h.2 x)⟩
theorem inB_set {b : Nat} {l : List Int} (h : inB b l) (i : Nat) (x : Int) (h0 : 0 ≤ x) (hx : x < 2 ^ b) : inB b (l.set i x) := by
  intro y hy
  rcases List.mem_or_eq_of_mem_set hy with h' | rfl
  · exact h y h'
  · exact ⟨h0, hx⟩

/-- The number of bytes, the highest ahead. -/
def be (l : List Int) : Nat := val 8 (nats l).reverse
theorem be_nil : be [] = 0 := rfl
theorem be_snoc (l : List Int) (x : Int) : be (l ++ [x]) = x.toNat + 256 * be l := by
  simp [be, nats, val]
theorem be_append (l m : List Int) : be (l ++ m) = be m + 256 ^ m.length * be l := by
  unfold be nats
  rw [List.map_append, List.reverse_append, val_append, List.length_reverse, List.length_map, Nat.pow_mul]
theorem be_lt {l : List Int} (h : inB 8 l) : be l < 256 ^ l.length := by
  have h1 : ok 8 (nats l).reverse := fun x hx => ok_nats h x (List.mem_reverse.1 hx)
  have := val_lt h1
  rw [List.length_reverse, nats_length, Nat.pow_mul] at this
  exact this
theorem be_take_succ (l : List Int) (k : Nat) (h : k < l.length) : be (l.take (k + 1)) = (rd l k).toNat + 256 * be (l.take k) := by
  have : l.take (k + 1) = l.take k ++ [rd l k] := by
    rw [List.take_succ_eq_append_getElem h]
    simp [rd, List.getD_eq_getElem?_getD, List.getElem?_eq_getElem h]
  rw [this, be_snoc]
end Go.Proofs.Ytflchcdmgceecaa.Num
