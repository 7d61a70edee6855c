/- The contracts of word.Put and nat.Bytes, by walking their text: a word's eight bytes; any number as so many bytes, or refused. -/
import Derived.Test.YtflchcdmgceecaaQNat
import Derived.Test.YtflchcdmgceecaaHBase
import Derived.Test.YtflchcdmgceecaaHNatOf
import Derived.OwnWalkIn
import Derived.TacticsInMore
import Derived.LoopNIn
import Derived.Deep.RegionLaw
import Derived.LoopIn
import Derived.Shelf.Abstract
import Derived.Shelf.RegionOpen
set_option linter.unusedVariables false
set_option linter.unusedSimpArgs false
namespace Go.Proofs.Ytflchcdmgceecaa.H
open Go.RowKit Go.Proofs.YtflchcdmgceecaaW.PrintWords Go.Proofs.YtflchcdmgceecaaW.PrintLast Go.Proofs.Ytflchcdmgceecaa.PA Go.Proofs.Ytflchcdmgceecaa.Num
attribute [local go_sem] Oper.semAt_some

/-- The byte number i of a word, the lowest ahead. -/
def byteAt (a : Int) (i : Nat) : Int := a / 2 ^ (8 * i) % 256
def putTo (a : Int) (i : Nat) : List Int := (List.range 8).map fun j => if 7 - j < i then byteAt a (7 - j) else 0
theorem putTo_length (a : Int) (i : Nat) : (putTo a i).length = 8 := by simp [putTo]
theorem putTo_set (a : Int) (i : Nat) (h : i < 8) : (putTo a i).set (7 - i) (byteAt a i) = putTo a (i + 1) := by
  apply List.ext_getElem
  · simp [putTo]
  · intro j h1 h2
    simp [putTo] at h2
    rw [List.getElem_set]
    simp only [putTo, List.getElem_map, List.getElem_range]
    by_cases hj : 7 - i = j
    · subst hj; rw [if_pos rfl, if_pos (by omega), show 7 - (7 - i) = i by omega]
    · rw [if_neg hj]
      by_cases h3 : 7 - j < i
      · rw [if_pos h3, if_pos (by omega)]
      · rw [if_neg h3, if_neg (by omega)]

set_option maxRecDepth 100000 in
set_option maxHeartbeats 2000000 in
theorem put_in (n : Nat) (a : Int) (w : World) :
    CallsIn Fence.wide n Try.prog 62 #[.int .u64 a] w fun e w' => e = .returned (.slice (some ⟨w.heap.size, 0, none⟩) 8 8) ∧ (∃ T, w'.heap[w.heap.size]? = some (.cells (nums .u8 (putTo a 8)).toArray T (0, 0))) ∧ Below w.heap.size w w' ∧ w.heap.size < w'.heap.size := by
  refine callsIn_of_wp Try.func62 rfl trivial ?_ rfl
  simp only [Try.ntmps62, List.size_toArray, List.length_cons, List.length_nil, Nat.reduceAdd, Nat.reduceSub, Array.replicate_succ, Array.replicate_zero, List.push_toArray, List.append_toArray, List.nil_append, List.cons_append]
  gi_wp2
  gi_loopw [5] (fun i wr => ∃ k : Nat, k ≤ 8 ∧ i = .int .i64 k ∧ (∃ T, wr.heap[w.heap.size]? = some (.cells (nums .u8 (putTo a k)).toArray T (0, 0))) ∧ Below w.heap.size w wr ∧ w.heap.size < wr.heap.size)
    (fun i _ => 8 - (intOf i).toNat)
  case atStart =>
    refine ⟨0, by omega, rfl, ⟨117, ?_⟩, (Below.refl _ w).alloc (Nat.le_refl _) _, by simp⟩
    rw [heap_at, if_pos rfl]
    rfl
  case round =>
    obtain ⟨k, hk, rfl, ⟨T, hb⟩, hbw, hsz⟩ := hrel
    by_cases hlt : k < 8
    · have hfr := blk_frozen hb (7 - k)
      have hst := blk_set hb (7 - k) (.int .u8 (byteAt a k))
      have HB := Lib.hid hb
      have HW := Lib.hid hbw
      have HS := Lib.hid hst
      have hcx : wr.cell? ⟨w.heap.size, 7 - k, none⟩ = some (.int .u8 ((putTo a k).getD (7 - k) 0)) := by
        rw [blk_cell hb, List.getElem?_toArray, nums, List.getElem?_map, List.getElem?_eq_getElem (by rw [putTo_length]; omega)]
        simp [List.getD_eq_getElem?_getD, List.getElem?_eq_getElem (show 7 - k < (putTo a k).length by rw [putTo_length]; omega)]
      clear hb hbw hst
      gi_wp2
      go_roundw
      case rel =>
        exact ⟨k + 1, by omega, by go_num, ⟨T, by rw [← putTo_set a k hlt]; simpa [nums, List.map_set, byteAt] using HS.out⟩, HW.out.setCell (Nat.le_refl _) _, by simpa using hsz⟩
      case measure => simp [intOf]; omega
    · obtain rfl : k = 8 := by omega
      gi_wp2
      refine bodyPost_ret (by simp [results, go_sem]) rfl ⟨rfl, ⟨T, hb⟩, hbw, hsz⟩

/-- The byte number e of a number, the lowest ahead; so many bytes of it, those of its first i words. -/
def xb (l : List Int) (e : Nat) : Int := byteAt (l.getD (e / 8) 0) (e % 8)
def bytesTo (l : List Int) (size i : Nat) : List Int := (List.range size).map fun p => if size - 1 - p < 8 * i then xb l (size - 1 - p) else 0
theorem bytesTo_length (l : List Int) (size i : Nat) : (bytesTo l size i).length = size := by simp [bytesTo]
theorem bytesTo_zero (l : List Int) (size : Nat) : bytesTo l size 0 = List.replicate size 0 := by
  apply List.ext_getElem
  · simp [bytesTo]
  · intro j h1 h2
    simp [bytesTo]
theorem bytesTo_step (l : List Int) (size i : Nat) (h : 8 * i < size) :
    (bytesTo l size i).take (size - 8 * i - 8) ++ (putTo (l.getD i 0) 8).drop (8 - ((size - 8 * i) - (size - 8 * i - 8))) ++ (bytesTo l size i).drop (size - 8 * i) = bytesTo l size (i + 1) := by
  obtain ⟨m, hm⟩ : ∃ m, m = size - 8 * i := ⟨_, rfl⟩
  obtain ⟨cut, hcut⟩ : ∃ cut, cut = m - 8 := ⟨_, rfl⟩
  rw [← hm, ← hcut]
  apply List.ext_getElem
  · simp [bytesTo, putTo]; omega
  · intro j h1 h2
    simp [bytesTo] at h2
    by_cases h3 : j < cut
    · rw [List.getElem_append_left (by simp [bytesTo, putTo]; omega), List.getElem_append_left (by simp [bytesTo]; omega), List.getElem_take]
      simp only [bytesTo, List.getElem_map, List.getElem_range]
      rw [if_neg (by omega), if_neg (by omega)]
    · by_cases h4 : j < m
      · rw [List.getElem_append_left (by simp [bytesTo, putTo]; omega), List.getElem_append_right (by simp [bytesTo]; omega), List.getElem_drop]
        simp only [bytesTo, putTo, List.getElem_map, List.getElem_range, List.length_take, List.length_map, List.length_range]
        rw [if_pos (by omega), if_pos (by omega), xb, show (size - 1 - j) / 8 = i by omega, show 7 - (8 - (m - cut) + (j - min cut size)) = (size - 1 - j) % 8 by omega]
      · rw [List.getElem_append_right (by simp [bytesTo, putTo]; omega), List.getElem_drop]
        simp only [bytesTo, putTo, List.getElem_map, List.getElem_range, List.length_append, List.length_take, List.length_drop, List.length_map, List.length_range]
        rw [show m + (j - (min cut size + (8 - (8 - (m - cut))))) = j by omega, if_pos (by omega), if_pos (by omega)]

theorem step_copy_h {P : Program} {ops : Array Oper} {o : Oper} {a : Act} {w : World} {K : Act → World → Prop} {Q : Exit → Act → World → Prop} {E : Prop} (hgd : o.guard = none) (d s : Operand) (dT sT : TypeId)
    (ho : o.op = .call { callee := .builtin .copy, args := #[d, s], argTypes := #[dT, sT] }) {D S : Value} (hd : a.eval d = D) (hs : a.eval s = S) {m : Nat} {w1 : World}
    (hrun : ∀ ty, (Builtin.copy_ #[dT, sT] ty #[D, S]).run P w = .ok (goInt m) w1) (h : K (a.put o.dst (goInt m)) w1) :
    if Region.wanted o (yielded ops a.tmps) = true then Oper.wp P o a w K Q else E := by
  have hw : Region.wanted o (yielded ops a.tmps) = true := by simp [Region.wanted, hgd]
  rw [if_pos hw]
  unfold Oper.wp
  simp [execOp, ho, resolve, invoke, builtin, hd, hs, hrun, Result.andThen]
  exact h

theorem below_setRow' {B g : Nat} {w0 w : World} (hb : Below B w0 w) (hBg : B ≤ g) (cs : Array Value) : Below B w0 (w.setRow g cs) :=
  hb.trans ⟨rfl, rfl, rfl, by simp, fun k hk => setRow_other w g k cs (by omega)⟩
theorem add_off (g o j : Nat) : (⟨g, o, none⟩ : Addr).add j = ⟨g, o + j, none⟩ := by unfold Addr.add; split <;> simp_all

theorem at_go (A0 : Option Addr) (c0 : Nat) (l0 : List Int) (i : Nat) (w : World) (hr0 : Kd.C (Kd.int .u64) w A0 l0.length l0) (hc0 : l0.length ≤ c0) :
    Calls Try.prog 63 #[.slice A0 l0.length c0, .int .i64 (i : Int)] w fun e w' => e = .returned (.int .u64 (l0.getD i 0)) ∧ Below w.heap.size w w' := by
  refine (nat_at.calls A0 c0 l0 i (l0.getD i 0) w hr0 hc0 ?_).mono fun e w' h => ⟨h.1, h.2.below⟩
  unfold nat_at.f
  rw [if_neg (by omega)]
  by_cases h : (i : Int) ≥ l0.length
  · rw [if_pos h, List.getD_eq_getElem?_getD, List.getElem?_eq_none (by omega)]; rfl
  · rw [if_neg h, if_pos (by omega), if_pos (by omega)]
    simp [rd]

set_option maxRecDepth 100000 in
set_option maxHeartbeats 4000000 in
theorem bytes_go (A0 : Option Addr) (c0 : Nat) (l0 : List Int) (k t size : Nat) (w : World) (hr0 : Kd.C (Kd.int .u64) w A0 l0.length l0) (hc0 : l0.length ≤ c0) (hl : l0.length ≤ 300) (hs : size ≤ 2400) (ht : nat_Bits.f k l0 = some (t : Int)) (ht2 : t ≤ 19200) (hfit : (t + 7) / 8 ≤ size) :
    Calls Try.prog 20 #[.slice A0 l0.length c0, .int .i64 (size : Int)] w fun e w' => ∃ v0_ : Value, e = .returned (.tuple #[v0_, .int .i64 0]) ∧ Kd.R (Kd.int .u8) 5 w' w.heap.size (fun _ => True) v0_ (bytesTo l0 size ((size + 7) / 8)) ∧ Below w.heap.size w w' := by
  have hmk : ∀ W : World, (Instr.makeSlice 22 (.int .i64 (size : Int)) (.int .i64 (size : Int))).run Try.prog W = .ok (.slice (some ⟨W.heap.size, 0, none⟩) size size) (W.alloc (.cells (madeCells #[.int .u8 0] size) 5)) := print_make 22 5 .u8 1 Try.underlying22 (by kernel_rfl) (by decide) size (by omega)
  have hbits : Calls Try.prog 28 #[.slice A0 l0.length c0] w fun e w' => e = .returned (.int .i64 (t : Int)) ∧ Below w.heap.size w w' := (nat_Bits.calls k A0 c0 l0 t w hr0 hc0 ht).mono fun e w' h => ⟨h.1, h.2.below⟩
  go_enter Try.func20, Try.ntmps20
  go_wp2_with fail
  refine hbits.mono ?_
  rintro e w1 ⟨rfl, hb1⟩
  obtain ⟨B, hB⟩ : ∃ B, B = w1.heap.size := ⟨_, rfl⟩
  have HB := Lib.hid hb1
  have HBb : Hid (w.heap.size ≤ B) := by rw [hB]; exact hb1.size
  have hor : (decide (2400 < (size : Int)) || decide (300 < (l0.length : Int))) = false := by simp; omega
  have hor2 : (decide ((size : Int) < 0) || decide ((size : Int) < ((t : Int) + 7) / 8)) = false := by simp; omega
  clear hb1
  go_wp2
  go_loopw [7] (fun i wr => ∃ k : Nat, k ≤ (size + 7) / 8 ∧ i = .int .i64 k ∧ wr.heap[w1.heap.size]? = some (.cells (nums .u8 (bytesTo l0 size k)).toArray 5 (0, 0)) ∧ Below w.heap.size w wr ∧ w1.heap.size < wr.heap.size)
    (fun i _ => (size + 7) / 8 - (intOf i).toNat)
  case atStart =>
    refine ⟨0, by omega, rfl, ?_, HB.out.trans ((Below.refl _ _).alloc HB.out.size _), by simp⟩
    rw [heap_at, if_pos rfl, bytesTo_zero, made_nums]
  case round =>
    obtain ⟨k, hk, rfl, hb, hbw, hsz⟩ := hrel
    by_cases hlt : 8 * k < size
    · have hr1 : Kd.C (Kd.int .u64) wr A0 l0.length l0 := C_same hr0 (fun i hi => hbw.block i hi)
      have hat := at_go A0 c0 l0 k wr hr1 hc0
      have HBK := Lib.hid hb
      have HBW := Lib.hid hbw
      clear hb hbw
      go_wp2_with fail
      refine hat.mono ?_
      rintro e w2 ⟨rfl, hb2⟩
      have HB2 := Lib.hid hb2
      clear hb2
      go_wp2_with fail
      refine (callsIn_wide.1 (put_in 1 (l0.getD k 0) w2)).mono ?_
      rintro e w3 ⟨rfl, ⟨T, hp⟩, hb3, hs3⟩
      have HP := Lib.hid hp
      have HB3 := Lib.hid hb3
      clear hp hb3
      obtain ⟨m, hm⟩ : ∃ m, m = size - 8 * k := ⟨_, rfl⟩
      obtain ⟨cut, hcut⟩ : ∃ cut, cut = m - 8 := ⟨_, rfl⟩
      have hsm : (size : Int) - 8 * (k : Int) = (m : Int) := by omega
      have hmax : max ((m : Int) - 8) 0 = (cut : Int) := by omega
      obtain ⟨r, hr⟩ : ∃ r, r = m - cut := ⟨_, rfl⟩
      obtain ⟨q, hq⟩ : ∃ q, q = 8 - r := ⟨_, rfl⟩
      have hmc : cut ≤ m := by omega
      have hmr : (m : Int) - (cut : Int) = (r : Int) := by omega
      have hrq : (8 : Int) - (r : Int) = (q : Int) := by omega
      have hq8 : q < 8 := by omega
      have hcs' : cut < size := by omega
      have hw3 : IntKind.i64.wrap (8 - IntKind.i64.wrap ((m - cut : Nat) : Int)) = (q : Int) := by rw [IntWalk.i64_in ((m - cut : Nat) : Int) ⟨by omega, by omega⟩, ← hr, hrq]; exact IntWalk.i64_in _ ⟨by omega, by omega⟩
      have hq10 : (q : Int) ≤ 8 := by omega
      have hq11 : ¬ 8 = q := by omega
      have hw2 : IntKind.i64.wrap (8 - ((m - cut : Nat) : Int)) = (q : Int) := by rw [← hr, hrq]; exact IntWalk.i64_in _ ⟨by omega, by omega⟩
      have hq9 : 8 - q = r := by omega
      have hms : m ≤ size := by omega
      have hr0' : r = m - cut := hr
      have hsz2 := HB2.out.size
      have hb3 : w3.drew.heap[w1.heap.size]? = some (.cells (nums .u8 (bytesTo l0 size k)).toArray 5 (0, 0)) := by
        show w3.heap[w1.heap.size]? = _
        rw [HB3.out.block _ (by omega), HB2.out.block _ hsz]; exact HBK.out
      obtain ⟨cs, hcs⟩ : ∃ cs, cs = nums .u8 ((putTo (l0.getD k 0) 8).drop q) := ⟨_, rfl⟩
      have hcl : cs.length = r := by rw [hcs]; simp [nums, putTo_length]; omega
      have hcopy : ∀ ty, (Builtin.copy_ #[22, 22] ty #[.slice (some ⟨w1.heap.size, cut, none⟩) (m - cut) (size - cut), .slice (some ⟨w2.heap.size, q, none⟩) (m - cut) (m - cut)]).run Try.prog w3.drew = .ok (goInt cs.length) (w3.drew.setRow w1.heap.size ((nums .u8 (bytesTo l0 size k)).toArray.toList.take cut ++ cs ++ (nums .u8 (bytesTo l0 size k)).toArray.toList.drop (cut + cs.length)).toArray) := fun ty =>
        run_copy_row Try.prog w3.drew 22 22 ty 5 w1.heap.size cut (m - cut) (size - cut) ⟨w2.heap.size, q, none⟩ (m - cut) (m - cut) _ 5 cs Try.underlying22 (by kernel_rfl) hb3 (by rw [hcl, ← hr]; exact (Nat.min_self _).symm)
          (fun j v hj => by rw [add_off, blk_cell (w := w3.drew) HP.out, List.getElem?_toArray, ← hj, hcs]; simp [nums, List.getElem?_drop]) (by rw [hcl]; simp [nums, bytesTo_length]; omega) (fun v hv => by rw [hcs] at hv; simp only [nums, List.mem_map] at hv; obtain ⟨x, _, rfl⟩ := hv; rfl)
      rw [show (nums .u8 (bytesTo l0 size k)).toArray.toList.take cut ++ cs ++ (nums .u8 (bytesTo l0 size k)).toArray.toList.drop (cut + cs.length) = nums .u8 (bytesTo l0 size (k + 1)) by
        rw [← bytesTo_step l0 size k hlt, ← hm, ← hcut, ← hr, ← hq, hcl, hcs, show cut + r = m by omega]; simp [nums]] at hcopy
      have HM : Hid (m = size - 8 * k) := hm
      clear hm hcut hcs hcl hb3 hsz2 hr hq
      go_wp2
      go_region_law (refine step_copy_h rfl (.tmp 52) (.tmp 58) 22 22 rfl (by simp [Act.eval, Act.put]; omega) (by simp [Act.eval, Act.put]) hcopy ?_)
      go_wp2
      go_roundw
      case rel =>
        have h3 : w3.drew.heap[w1.heap.size]? = some (.cells (nums .u8 (bytesTo l0 size k)).toArray 5 (0, 0)) := by
          show w3.heap[w1.heap.size]? = _
          rw [HB3.out.block _ (Nat.lt_of_lt_of_le hsz HB2.out.size), HB2.out.block _ hsz]; exact HBK.out
        have hbw3 : Below w.heap.size w w3.drew := Below.trans (Below.trans (Below.trans HBW.out (HB2.out.mono HBW.out.size)) (HB3.out.mono (Nat.le_trans HBW.out.size HB2.out.size))) (Below.drew (Below.refl _ _))
        exact ⟨k + 1, by omega, by go_num, setRow_heap _ _ _ _ _ _ h3, below_setRow' hbw3 HB.out.size _, by rw [setRow_size]; exact Nat.lt_of_lt_of_le hsz (Nat.le_trans HB2.out.size HB3.out.size)⟩
      case measure => simp [intOf]; omega
    · have HBK := Lib.hid hb
      have HBW := Lib.hid hbw
      clear hb hbw
      obtain rfl : k = (size + 7) / 8 := by omega
      go_wp2
      refine bodyPost_ret (v := .tuple #[.slice (some ⟨w1.heap.size, 0, none⟩) size size, .int .i64 0]) (by simp [results, go_sem]) rfl ?_
      have hL := bytesTo_length l0 size ((size + 7) / 8)
      have hblk := HBK.out
      generalize bytesTo l0 size ((size + 7) / 8) = L at hL hblk ⊢
      refine ⟨_, rfl, Kd.R_of_own ⟨by simp [encs], .inr ⟨w1.heap.size, size, _, by rw [hL], HB.out.size, hblk, by omega, Nat.le_trans hs (by decide), by simp [nums, hL], by simp [encs, nums]; exact List.take_of_length_le (by simp)⟩⟩ (fun _ _ => trivial), HBW.out⟩

/-- nat.Bytes, in closed form. -/
def nat_Bytes.f (l0 : List Int) (a1 : Int) : Option (List Int × Int) :=
  if inB 64 l0 ∧ l0.length ≤ 140737488351232 then
    (if 2400 < a1 ∨ 300 < l0.length then some ([], 2)
     else if a1 < 0 ∨ a1 < ((bitlen (val 64 (nats l0)) + 7) / 8 : Nat) then some ([], 1)
     else some ((ints (digs 8 a1.toNat (val 64 (nats l0)))).reverse, 0))
  else none

theorem byte_of_word (v e : Nat) : v / 2 ^ (64 * (e / 8)) % 2 ^ 64 / 2 ^ (8 * (e % 8)) % 2 ^ 8 = v / 2 ^ (8 * e) % 2 ^ 8 := by
  apply Nat.eq_of_testBit_eq
  intro i
  simp only [Nat.testBit_mod_two_pow, Nat.testBit_div_two_pow]
  by_cases hi : i < 8
  · have h1 : i + 8 * (e % 8) < 64 := by omega
    have h2 : i + 8 * (e % 8) + 64 * (e / 8) = i + 8 * e := by omega
    simp [hi, h1, h2]
  · simp [hi]

theorem bytesTo_eq {l : List Int} (h : inB 64 l) (size : Nat) : bytesTo l size ((size + 7) / 8) = (ints (digs 8 size (val 64 (nats l)))).reverse := by
  apply List.ext_getElem
  · simp [bytesTo, ints_length, digs_length]
  · intro j h1 h2
    rw [bytesTo_length] at h1
    have e := getD_digs 8 size (val 64 (nats l)) (size - 1 - j) (by omega)
    rw [List.getD_eq_getElem?_getD, List.getElem?_eq_getElem (by rw [digs_length]; omega), Option.getD_some] at e
    rw [List.getElem_reverse]
    simp only [bytesTo, ints, List.getElem_map, List.getElem_range, List.length_map, digs_length]
    rw [if_pos (by omega), e, xb, byteAt]
    generalize size - 1 - j = e
    have hw : ∀ i : Nat, l.getD i 0 = (((nats l).getD i 0 : Nat) : Int) := by
      intro i
      have := rd_nats h (i : Int)
      simpa [rd] using this
    rw [hw, getD_val (ok_nats h)]
    generalize val 64 (nats l) = v
    show (_ : Int) = ((v / 2 ^ (8 * e) % 2 ^ 8 : Nat) : Int)
    rw [← byte_of_word v e, Int.natCast_emod, Int.natCast_ediv, Int.natCast_pow]
    rfl

set_option maxRecDepth 100000 in
set_option maxHeartbeats 2000000 in
theorem nat_Bytes.calls (A0 : Option Addr) (c0 : Nat) (l0 : List Int) (a1 : Int) (r1 : List Int) (r2 : Int) (w : World) (hr0 : Kd.C (Kd.int .u64) w A0 l0.length l0) (hc0 : l0.length ≤ c0) (h : nat_Bytes.f l0 a1 = some (r1, r2)) :
    Calls Try.prog 20 #[.slice A0 l0.length c0, .int .i64 a1] w fun e w' => ∃ v0_ : Value, e = .returned (.tuple #[v0_, .int .i64 r2]) ∧ Kd.R (Kd.int .u8) 5 w' w.heap.size (fun _ => True) v0_ r1 ∧ Below w.heap.size w w' := by
  unfold nat_Bytes.f at h
  split at h
  case isFalse => cases h
  rename_i hh
  have hbits := Q.bits_spec hh.1 hh.2 (l0.length + 1) (by omega)
  have hvl : bitlen (val 64 (nats l0)) ≤ 64 * l0.length := bitlen_le (by rw [← nats_length l0]; exact val_lt (ok_nats hh.1))
  obtain ⟨t, ht⟩ : ∃ t, t = bitlen (val 64 (nats l0)) := ⟨_, rfl⟩
  rw [← ht] at h hbits hvl
  have hB : Calls Try.prog 28 #[.slice A0 l0.length c0] w fun e w' => e = .returned (.int .i64 (t : Int)) ∧ Below w.heap.size w w' := (nat_Bits.calls _ A0 c0 l0 t w hr0 hc0 hbits).mono fun e w' h => ⟨h.1, h.2.below⟩
  by_cases h1 : 2400 < a1 ∨ 300 < l0.length
  · rw [if_pos h1] at h
    cases h
    have hor : (decide (2400 < a1) || decide (300 < (l0.length : Int))) = true := by simp; omega
    go_enter Try.func20, Try.ntmps20
    go_wp2
    all_goals exact bodyPost_ret (v := .tuple #[.slice none 0 0, .int .i64 2]) (by simp [results, go_sem]) rfl ⟨_, rfl, Kd.R_of_own (World.ownsRow_nil _ _ _ _) (fun _ _ => trivial), Below.refl _ _⟩
  · rw [if_neg h1] at h
    by_cases h2 : a1 < 0 ∨ a1 < ((t + 7) / 8 : Nat)
    · rw [if_pos h2] at h
      cases h
      have hor : (decide (2400 < a1) || decide (300 < (l0.length : Int))) = false := by simp; omega
      by_cases h3 : a1 < 0
      · go_enter Try.func20, Try.ntmps20
        go_wp2
        all_goals exact bodyPost_ret (v := .tuple #[.slice none 0 0, .int .i64 1]) (by simp [results, go_sem]) rfl ⟨_, rfl, Kd.R_of_own (World.ownsRow_nil _ _ _ _) (fun _ _ => trivial), Below.refl _ _⟩
      · go_enter Try.func20, Try.ntmps20
        go_wp2_with fail
        refine hB.mono ?_
        rintro e w1 ⟨rfl, hb1⟩
        have HB := Lib.hid hb1
        clear hb1
        go_wp2
        all_goals exact bodyPost_ret (v := .tuple #[.slice none 0 0, .int .i64 1]) (by simp [results, go_sem]) rfl ⟨_, rfl, Kd.R_of_own (World.ownsRow_nil _ _ _ _) (fun _ _ => trivial), HB.out⟩
    · rw [if_neg h2] at h
      obtain ⟨N, rfl⟩ : ∃ N : Nat, a1 = (N : Int) := ⟨a1.toNat, by omega⟩
      have := bytes_go A0 c0 l0 _ t N w hr0 hc0 (by omega) (by omega) hbits (by omega) (by omega)
      rw [bytesTo_eq hh.1] at this
      rw [Int.toNat_natCast] at h
      cases h
      exact this
end Go.Proofs.Ytflchcdmgceecaa.H

set_option linter.unusedVariables false
set_option linter.unusedSimpArgs false
namespace Go.Proofs.Ytflchcdmgceecaa.H
open Go.RowKit Go.Proofs.YtflchcdmgceecaaW.PrintWords Go.Proofs.YtflchcdmgceecaaW.PrintLast Go.Proofs.Ytflchcdmgceecaa.PA Go.Proofs.Ytflchcdmgceecaa.Num
attribute [local go_sem] Oper.semAt_some

/-- 'copy' of numbers that are read, into a block of the call's own. -/
theorem run_copy_read (P : Program) (w : World) (dT sT ty elem : TypeId) (g o dLen dCap : Nat) (A0 : Option Addr) (sLen sCap : Nat) (cur : Array Value) (t : TypeId) (k : IntKind) (xs : List Int)
    (hu : P.underlying dT = some (.slice elem)) (hs : (P.info? elem).map (·.size) = some 1) (hg : w.heap[g]? = some (.cells cur t (0, 0)))
    (hC : Kd.C (Kd.int k) w A0 xs.length xs) (hsl : sLen = xs.length) (hd : sLen ≤ dLen) (hfit : o + sLen ≤ cur.size) :
    (Builtin.copy_ #[dT, sT] ty #[.slice (some ⟨g, o, none⟩) dLen dCap, .slice A0 sLen sCap]).run P w =
      .ok (goInt sLen) (w.setRow g (cur.toList.take o ++ nums k xs ++ cur.toList.drop (o + sLen)).toArray) := by
  subst hsl
  have h1 := Kd.reads_of_C (d := (0 : Int)) hC
  have hnl : (nums k xs).length = xs.length := by simp [nums]
  by_cases hn : 0 < xs.length
  · obtain ⟨ad, rfl, hc⟩ := h1.2.2 hn
    have := run_copy_row P w dT sT ty elem g o dLen dCap ad xs.length sCap cur t (nums k xs) hu hs hg (by rw [hnl]; exact (Nat.min_eq_left hd).symm)
      (fun j v hj => by
        have hjl : j < xs.length := by
          have := (List.getElem?_eq_some_iff.1 hj).1
          rwa [hnl] at this
        have e := hc j hjl
        simp [nums, List.getElem?_eq_getElem hjl] at hj
        simp [List.getD_eq_getElem?_getD, List.getElem?_eq_getElem hjl] at e
        rw [← hj]
        simpa using e) (by rw [hnl]; exact hfit) (fun v hv => by simp only [nums, List.mem_map] at hv; obtain ⟨x, _, rfl⟩ := hv; rfl)
    rw [hnl] at this
    exact this
  · have h0 : xs = [] := List.eq_nil_of_length_eq_zero (by omega)
    subst h0
    rw [run_copy_none (P := P) w dT sT ty elem _ _ dLen dCap _ sCap hu hs (by simp)]
    congr 1
    simp only [nums, List.map_nil, List.append_nil, List.length_nil, Nat.add_zero, List.take_append_drop, Array.toArray_toList]
    exact (setRow_self w g cur t (0, 0) hg).symm

set_option maxRecDepth 100000 in
set_option maxHeartbeats 4000000 in
theorem resize_go (A0 : Option Addr) (c0 : Nat) (l0 : List Int) (t N : Nat) (w : World) (hr0 : Kd.C (Kd.int .u64) w A0 l0.length l0) (hc0 : l0.length ≤ c0) (hb0 : inB 64 l0) (hm0 : l0.length ≤ 140737488351232) (ht : t = need 64 (val 64 (nats l0))) (hN : N ≤ 300) (htN : t ≤ N) :
    Calls Try.prog 23 #[.slice A0 l0.length c0, .int .i64 (N : Int)] w fun e w' => ∃ v0_ : Value, e = .returned (.tuple #[v0_, .int .i64 0]) ∧ Kd.R (Kd.int .u64) 41 w' w.heap.size (fun _ => True) v0_ (l0.take t ++ List.replicate (N - t) 0) ∧ Below w.heap.size w w' := by
  have htl : t ≤ l0.length := by rw [ht]; exact Q.need_len hb0
  have hmk : ∀ W : World, (Instr.makeSlice 25 (.int .i64 (N : Int)) (.int .i64 (N : Int))).run Try.prog W = .ok (.slice (some ⟨W.heap.size, 0, none⟩) N N) (W.alloc (.cells (madeCells #[.int .u64 0] N) 41)) := print_make 25 41 .u64 8 Try.underlying25 (by kernel_rfl) (by decide) N (by omega)
  have hL : ∀ W : World, Kd.C (Kd.int .u64) W A0 l0.length l0 → Calls Try.prog 65 #[.slice A0 l0.length c0] W fun e w' => e = .returned (.int .i64 (t : Int)) ∧ Drawn0 W w' := fun W hC => nat_least.calls _ A0 c0 l0 t W hC hc0 (by rw [ht]; exact Q.least_spec hb0 hm0 (l0.length + 1) (by omega))
  clear ht
  go_enter Try.func23, Try.ntmps23
  go_wp2_with fail
  refine (hL _ hr0).mono ?_
  rintro e w1 ⟨rfl, hd1⟩
  obtain ⟨n1, rfl⟩ := hd1.out
  clear hd1
  go_wp2_with fail
  refine (hL _ (C_same hr0 (fun i hi => by rw [heap_at, if_neg (by simp; omega)]; rfl))).mono ?_
  rintro e w2 ⟨rfl, hd2⟩
  have hbe : Below w.heap.size w w2 := Below.trans (Below.alloc (a := w) (w := w.drewN n1) (B := w.heap.size) ⟨rfl, rfl, rfl, Nat.le_refl _, fun _ _ => rfl⟩ (Nat.le_refl _) _) (hd2.below.mono (by simp))
  have hblk : w2.heap[w.heap.size]? = some (.cells (madeCells #[.int .u64 0] N) 41 (0, 0)) := by
    rw [hd2.below.block _ (by simp), heap_at, if_pos (by rfl)]
  clear hd2
  have hCt : Kd.C (Kd.int .u64) w2 A0 (l0.take t).length (l0.take t) := by
    exact Kd.C_take (C_same hr0 (fun i hi => hbe.block i hi)) htl
  have hcopy : ∀ ty, (Builtin.copy_ #[25, 25] ty #[.slice (some ⟨w.heap.size, 0, none⟩) N N, .slice A0 t c0]).run Try.prog w2 = .ok (goInt t) (w2.setRow w.heap.size (nums .u64 (l0.take t ++ List.replicate (N - t) 0)).toArray) := fun ty => by
    have := run_copy_read Try.prog w2 25 25 ty 41 w.heap.size 0 N N A0 t c0 (madeCells #[.int .u64 0] N) 41 .u64 (l0.take t) Try.underlying25 (by kernel_rfl) hblk hCt (by rw [List.length_take, Nat.min_eq_left htl]) htN (by rw [made_nums]; simp [nums]; exact htN)
    rw [this, made_nums]
    simp [nums]
  have HB := Lib.hid hblk
  have HE := Lib.hid hbe
  clear hblk hbe hCt
  go_wp2
  refine bodyPost_ret (v := .tuple #[.slice (some ⟨w.heap.size, 0, none⟩) N N, .int .i64 0]) (by simp [results, go_sem]) rfl ?_
  have hLn : (l0.take t ++ List.replicate (N - t) 0).length = N := by simp; omega
  generalize l0.take t ++ List.replicate (N - t) 0 = L at hLn ⊢
  refine ⟨_, rfl, Kd.R_of_own ⟨by simp [encs], .inr ⟨w.heap.size, N, _, by rw [hLn], Nat.le_refl _, setRow_heap _ _ _ _ _ _ HB.out, by omega, Nat.le_trans hN (by decide), by simp [nums, hLn], by simp [encs, nums]; exact List.take_of_length_le (by simp)⟩⟩ (fun _ _ => trivial), below_setRow' HE.out (Nat.le_refl _) _⟩

/-- nat.Resize, in closed form. -/
def nat_Resize.f (l0 : List Int) (a1 : Int) : Option (List Int × Int) :=
  if inB 64 l0 ∧ l0.length ≤ 140737488351232 then
    (if 300 < a1 then some ([], 2)
     else if a1 < (need 64 (val 64 (nats l0)) : Nat) then some ([], 1)
     else some (ints (digs 64 a1.toNat (val 64 (nats l0))), 0))
  else none

theorem resize_eq {l : List Int} (h : inB 64 l) (N : Nat) (hN : need 64 (val 64 (nats l)) ≤ N) : l.take (need 64 (val 64 (nats l))) ++ List.replicate (N - need 64 (val 64 (nats l))) 0 = ints (digs 64 N (val 64 (nats l))) := by
  obtain ⟨m, hm⟩ : ∃ m, N = need 64 (val 64 (nats l)) + m := ⟨N - need 64 (val 64 (nats l)), by omega⟩
  rw [hm, digs_ext 64 _ m _ (lt_need (by decide) _), Nat.add_sub_cancel_left]
  have := own_take (b := 64) (by decide) (ok_nats h)
  unfold own at this
  rw [← this]
  simp only [ints, List.map_append, List.map_replicate]
  congr 1
  have e := ints_nats (inB_take h (need 64 (val 64 (nats l))))
  rw [← e]
  simp [ints, nats, List.map_take]

set_option maxRecDepth 100000 in
set_option maxHeartbeats 2000000 in
theorem nat_Resize.calls (A0 : Option Addr) (c0 : Nat) (l0 : List Int) (a1 : Int) (r1 : List Int) (r2 : Int) (w : World) (hr0 : Kd.C (Kd.int .u64) w A0 l0.length l0) (hc0 : l0.length ≤ c0) (h : nat_Resize.f l0 a1 = some (r1, r2)) :
    Calls Try.prog 23 #[.slice A0 l0.length c0, .int .i64 a1] w fun e w' => ∃ v0_ : Value, e = .returned (.tuple #[v0_, .int .i64 r2]) ∧ Kd.R (Kd.int .u64) 41 w' w.heap.size (fun _ => True) v0_ r1 ∧ Below w.heap.size w w' := by
  unfold nat_Resize.f at h
  split at h
  case isFalse => cases h
  rename_i hh
  obtain ⟨t, ht⟩ : ∃ t, t = need 64 (val 64 (nats l0)) := ⟨_, rfl⟩
  have hL : Calls Try.prog 65 #[.slice A0 l0.length c0] w fun e w' => e = .returned (.int .i64 (t : Int)) ∧ Below w.heap.size w w' := (nat_least.calls _ A0 c0 l0 t w hr0 hc0 (by rw [ht]; exact Q.least_spec hh.1 hh.2 (l0.length + 1) (by omega))).mono fun e w' h => ⟨h.1, h.2.below⟩
  rw [← ht] at h
  by_cases h1 : 300 < a1
  · rw [if_pos h1] at h
    cases h
    go_enter Try.func23, Try.ntmps23
    go_wp2
    exact bodyPost_ret (v := .tuple #[.slice none 0 0, .int .i64 2]) (by simp [results, go_sem]) rfl ⟨_, rfl, Kd.R_of_own (World.ownsRow_nil _ _ _ _) (fun _ _ => trivial), Below.refl _ _⟩
  · rw [if_neg h1] at h
    by_cases h2 : a1 < (t : Int)
    · rw [if_pos h2] at h
      cases h
      go_enter Try.func23, Try.ntmps23
      go_wp2_with fail
      refine hL.mono ?_
      rintro e w1 ⟨rfl, hb1⟩
      have HB := Lib.hid hb1
      clear hb1
      go_wp2
      exact bodyPost_ret (v := .tuple #[.slice none 0 0, .int .i64 1]) (by simp [results, go_sem]) rfl ⟨_, rfl, Kd.R_of_own (World.ownsRow_nil _ _ _ _) (fun _ _ => trivial), HB.out⟩
    · rw [if_neg h2] at h
      obtain ⟨N, rfl⟩ : ∃ N : Nat, a1 = (N : Int) := ⟨a1.toNat, by omega⟩
      have := resize_go A0 c0 l0 t N w hr0 hc0 hh.1 hh.2 ht (by omega) (by omega)
      rw [ht, resize_eq hh.1 N (by omega)] at this
      rw [Int.toNat_natCast] at h
      cases h
      exact this
end Go.Proofs.Ytflchcdmgceecaa.H

set_option linter.unusedVariables false
set_option linter.unusedSimpArgs false
namespace Go.Proofs.Ytflchcdmgceecaa.H
open Go.RowKit Go.Proofs.YtflchcdmgceecaaW.PrintWords Go.Proofs.YtflchcdmgceecaaW.PrintLast
attribute [local go_sem] Oper.semAt_some

set_option maxRecDepth 100000 in
set_option maxHeartbeats 4000000 in
theorem few_go (b : Nat) (T : TypeId) (xs : List (Option Addr × Nat × Nat)) (w : World) (hx : xs.length ≤ 100) (hb : w.heap[b]? = some (.cells (xs.map fun x => Value.slice x.1 x.2.1 x.2.2).toArray T (0, 0))) :
    Calls Try.prog 19 #[.slice (some ⟨b, 0, none⟩) xs.length xs.length] w fun e w' => e = .returned (.bool (decide (∀ x ∈ xs, x.2.1 ≤ 400))) ∧ Below w.heap.size w w' := by
  go_enter Try.func19, Try.ntmps19
  go_wp2
  go_loopw [7] (fun i wr => ∃ k : Nat, k ≤ xs.length ∧ i = .int .i64 k ∧ wr.heap[b]? = some (.cells (xs.map fun x => Value.slice x.1 x.2.1 x.2.2).toArray T (0, 0)) ∧ Below w.heap.size w wr ∧ ∀ x ∈ xs.take k, x.2.1 ≤ 400)
    (fun i _ => xs.length - (intOf i).toNat)
  case atStart => exact ⟨0, by omega, rfl, hb, Below.refl _ _, fun x h => by simp at h⟩
  case round =>
    obtain ⟨k, hk, rfl, hbk, hbw, hall⟩ := hrel
    by_cases hlt : k < xs.length
    · have hc := blk_cell hbk k
      rw [List.getElem?_toArray, List.getElem?_map, List.getElem?_eq_getElem hlt, Option.map_some] at hc
      have HB := Lib.hid hbk
      have HW := Lib.hid hbw
      have HA := Lib.hid hall
      clear hbk hbw hall
      by_cases h4 : xs[k].2.1 ≤ 400
      · go_wp2
        go_roundw
        case rel =>
          refine ⟨k + 1, by omega, by go_num, HB.out, HW.out, fun x h => ?_⟩
          rw [List.take_add_one, List.getElem?_eq_getElem hlt] at h
          rcases List.mem_append.1 h with h1 | h1
          · exact HA.out x h1
          · simp at h1; subst h1; exact h4
        case measure => simp [intOf]; omega
      · go_wp2
        refine bodyPost_ret (v := .bool false) (by simp [results, go_sem]) rfl ⟨?_, HW.out⟩
        congr 2
        symm
        rw [decide_eq_false_iff_not]
        exact fun hc => h4 (hc _ (List.getElem_mem hlt))
    · have HB := Lib.hid hbk
      have HW := Lib.hid hbw
      have HA := Lib.hid hall
      clear hbk hbw hall
      go_wp2
      refine bodyPost_ret (v := .bool true) (by simp [results, go_sem]) rfl ⟨?_, HW.out⟩
      congr 2
      symm
      rw [decide_eq_true_iff]
      have := HA.out
      rwa [List.take_of_length_le (by omega)] at this

def few1.f (l0 : List Int) : Option Bool := some (decide (l0.length ≤ 400))
theorem few1.calls (A0 : Option Addr) (c0 : Nat) (l0 : List Int) (r : Bool) (w : World) (hr0 : Kd.C (Kd.int .u64) w A0 l0.length l0) (hc0 : l0.length ≤ c0) (h : few1.f l0 = some r) :
    Calls Try.prog 19 #[.slice (some ⟨w.heap.size, 0, none⟩) 1 1] (w.alloc (.cells #[.slice A0 l0.length c0] 25)) fun e w' => e = .returned (.bool r) ∧ Below w.heap.size w w' := by
  cases h
  refine (few_go w.heap.size 25 [(A0, l0.length, c0)] _ (by simp) (by rw [heap_at, if_pos rfl]; rfl)).mono ?_
  rintro e w' ⟨he, hb⟩
  exact ⟨by simpa using he, box_below hb⟩
def few2.f (l0 l1 : List Int) : Option Bool := some (decide (l0.length ≤ 400 ∧ l1.length ≤ 400))
theorem few2.calls (A0 : Option Addr) (c0 : Nat) (l0 : List Int) (A1 : Option Addr) (c1 : Nat) (l1 : List Int) (r : Bool) (w : World) (hr0 : Kd.C (Kd.int .u64) w A0 l0.length l0) (hc0 : l0.length ≤ c0) (hr1 : Kd.C (Kd.int .u64) w A1 l1.length l1) (hc1 : l1.length ≤ c1) (h : few2.f l0 l1 = some r) :
    Calls Try.prog 19 #[.slice (some ⟨w.heap.size, 0, none⟩) 2 2] (w.alloc (.cells #[.slice A0 l0.length c0, .slice A1 l1.length c1] 25)) fun e w' => e = .returned (.bool r) ∧ Below w.heap.size w w' := by
  cases h
  refine (few_go w.heap.size 25 [(A0, l0.length, c0), (A1, l1.length, c1)] _ (by simp) (by rw [heap_at, if_pos rfl]; rfl)).mono ?_
  rintro e w' ⟨he, hb⟩
  exact ⟨by simpa using he, box_below hb⟩
def few3.f (l0 l1 l2 : List Int) : Option Bool := some (decide (l0.length ≤ 400 ∧ l1.length ≤ 400 ∧ l2.length ≤ 400))
theorem few3.calls (A0 : Option Addr) (c0 : Nat) (l0 : List Int) (A1 : Option Addr) (c1 : Nat) (l1 : List Int) (A2 : Option Addr) (c2 : Nat) (l2 : List Int) (r : Bool) (w : World) (hr0 : Kd.C (Kd.int .u64) w A0 l0.length l0) (hc0 : l0.length ≤ c0) (hr1 : Kd.C (Kd.int .u64) w A1 l1.length l1) (hc1 : l1.length ≤ c1) (hr2 : Kd.C (Kd.int .u64) w A2 l2.length l2) (hc2 : l2.length ≤ c2) (h : few3.f l0 l1 l2 = some r) :
    Calls Try.prog 19 #[.slice (some ⟨w.heap.size, 0, none⟩) 3 3] (w.alloc (.cells #[.slice A0 l0.length c0, .slice A1 l1.length c1, .slice A2 l2.length c2] 25)) fun e w' => e = .returned (.bool r) ∧ Below w.heap.size w w' := by
  cases h
  refine (few_go w.heap.size 25 [(A0, l0.length, c0), (A1, l1.length, c1), (A2, l2.length, c2)] _ (by simp) (by rw [heap_at, if_pos rfl]; rfl)).mono ?_
  rintro e w' ⟨he, hb⟩
  exact ⟨by simpa using he, box_below hb⟩
end Go.Proofs.Ytflchcdmgceecaa.H
