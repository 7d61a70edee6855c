/- The contract of nat.Parse, by walking its text: a text as the number that it is, or none. -/
import Derived.Test.YtflchcdmgceecaaQRef2
import Derived.Laws.RangeAny
import Derived.StillTailTactics
set_option linter.unusedVariables false
set_option linter.unusedSimpArgs false
namespace Go.Proofs.Ytflchcdmgceecaa.H
open Go.RowKit Go.Proofs.YtflchcdmgceecaaW.PrintWords Go.Proofs.YtflchcdmgceecaaW.PrintLast Go.Proofs.Ytflchcdmgceecaa.PA Go.Proofs.Ytflchcdmgceecaa.Num
attribute [local go_sem] Oper.semAt_some

/-- A digit's number; -1: none. -/
def hexd (c : Nat) : Int := if 48 ≤ c ∧ c ≤ 57 then (c : Int) - 48 else if 97 ≤ c ∧ c ≤ 102 then (c : Int) - 87 else -1
def digitsL : List UInt8 := [48, 49, 50, 51, 52, 53, 54, 55, 56, 57, 97, 98, 99, 100, 101, 102]
theorem index_digits (c : Nat) (hc : c < 256) : Lib.indexByte digitsL c.toUInt8 = hexd c := by
  have h : ∀ n : Fin 256, Lib.indexByte digitsL (n.1).toUInt8 = hexd n.1 := by decide +kernel
  exact h ⟨c, hc⟩
theorem hexd_le (c : Nat) : hexd c ≤ 15 := by unfold hexd; split <;> (try split) <;> omega
theorem hexd_high {c : Nat} (h : 102 < c) : hexd c = -1 := by unfold hexd; rw [if_neg (by omega), if_neg (by omega)]
def hexV (l : List UInt8) : Nat := l.foldl (fun v c => v * 16 + (hexd c.toNat).toNat) 0
theorem hexV_snoc (l : List UInt8) (c : UInt8) : hexV (l ++ [c]) = hexV l * 16 + (hexd c.toNat).toNat := by simp [hexV]
def hexOk (l : List UInt8) : Prop := ∀ c ∈ l, 0 ≤ hexd c.toNat
instance hexOk_dec (l : List UInt8) : Decidable (hexOk l) := by unfold hexOk; infer_instance
theorem hexV_take (l : List UInt8) (i : Nat) (h : i < l.length) : hexV (l.take (i + 1)) = hexV (l.take i) * 16 + (hexd l[i].toNat).toNat := by
  rw [List.take_succ_eq_append_getElem h, hexV_snoc]
theorem hexV_lt {l : List UInt8} : ∀ i, i ≤ l.length → hexV (l.take i) < 16 ^ i := by
  intro i
  induction i with
  | zero => intro _; simp [hexV]
  | succ i ih =>
    intro h
    have h1 := ih (by omega)
    rw [hexV_take l i (by omega), Nat.pow_succ]
    have h2 := hexd_le (l[i]'(by omega)).toNat
    omega

theorem run_next_at {P : Program} (w : World) (ib pos : Nat) (s : ByteArray) (ty : TypeId) (hh : w.heap[ib]? = some (.stringIter s pos)) (h : pos < s.size) :
    (Instr.next (.pointer (some ⟨ib, 0, none⟩)) true ty).run P w = .ok (.tuple #[.bool true, .int .i64 pos, .int .i32 (Utf8.decode s pos).1]) (w.putObj ib (.stringIter s (pos + (Utf8.decode s pos).2))) := by
  simp only [Instr.next, getObj, setObj, Sem.run_bind, Sem.run, hh, Result.andThen, h, if_true]
  simp [goInt, World.putObj]
theorem run_next_at_end {P : Program} (w : World) (ib pos : Nat) (s : ByteArray) (ty : TypeId) (hh : w.heap[ib]? = some (.stringIter s pos)) (h : ¬ pos < s.size) :
    (Instr.next (.pointer (some ⟨ib, 0, none⟩)) true ty).run P w = .ok (.tuple #[.bool false]) w := by
  simp only [Instr.next, getObj, Sem.run_bind, Sem.run, hh, Result.andThen, h, if_false]
  rfl

/-- The limbs with the digits so far at their places. -/
theorem or_place4 (m : List Nat) (hok : ok 64 m) (c t y : Nat) (hv : val 64 m = c * 2 ^ (4 * (t + 1))) (ht : t / 16 < m.length) (hy : y < 16) :
    Go.bits .or .u64 ((m.getD (t / 16) 0 : Nat) : Int) ((y * 2 ^ (4 * (t % 16)) : Nat) : Int) = ((m.getD (t / 16) 0 + y * 2 ^ (4 * (t % 16)) : Nat) : Int) ∧
    m.getD (t / 16) 0 + y * 2 ^ (4 * (t % 16)) < 2 ^ 64 ∧ y * 2 ^ (4 * (t % 16)) < 2 ^ 64 := by
  have hg := getD_val hok (t / 16)
  have hm : m.getD (t / 16) 0 % 2 ^ (4 * (t % 16) + 4) = 0 := by
    rw [hg, hv, show 4 * (t + 1) = 64 * (t / 16) + (4 * (t % 16) + 4) by omega, Nat.pow_add, show c * (2 ^ (64 * (t / 16)) * 2 ^ (4 * (t % 16) + 4)) = (c * 2 ^ (4 * (t % 16) + 4)) * 2 ^ (64 * (t / 16)) by ac_rfl, Nat.mul_div_cancel _ (pow_pos' _)]
    rw [show (2:Nat) ^ 64 = 2 ^ (4 * (t % 16) + 4) * 2 ^ (60 - 4 * (t % 16)) by rw [← Nat.pow_add]; congr 1; omega, Nat.mod_mul_right_mod, Nat.mul_mod_left]
  have hlt : m.getD (t / 16) 0 < 2 ^ 64 := ok_getD hok _
  generalize m.getD (t / 16) 0 = x at hm hlt ⊢
  have hs : t % 16 < 16 := Nat.mod_lt _ (by decide)
  generalize t % 16 = s at hm hs ⊢
  have hys : y * 2 ^ (4 * s) < 2 ^ (4 * s + 4) := by
    rw [Nat.pow_add, Nat.mul_comm (2 ^ (4 * s))]
    exact Nat.mul_lt_mul_of_pos_right hy (pow_pos' _)
  have hle : 2 ^ (4 * s + 4) ≤ 2 ^ 64 := Nat.pow_le_pow_right (by decide) (by omega)
  have hsum : x + y * 2 ^ (4 * s) < 2 ^ 64 := by
    obtain ⟨q, hq⟩ : ∃ q, x = 2 ^ (4 * s + 4) * q := ⟨x / 2 ^ (4 * s + 4), by have := Nat.div_add_mod x (2 ^ (4 * s + 4)); omega⟩
    have h32 : (2:Nat) ^ 64 = 2 ^ (4 * s + 4) * 2 ^ (60 - 4 * s) := by rw [← Nat.pow_add]; congr 1; omega
    rw [hq, h32] at hlt
    have hq2 := Nat.lt_of_mul_lt_mul_left hlt
    have : 2 ^ (4 * s + 4) * (q + 1) ≤ 2 ^ (4 * s + 4) * 2 ^ (60 - 4 * s) := Nat.mul_le_mul_left _ hq2
    rw [Nat.mul_add, Nat.mul_one] at this
    rw [h32]
    omega
  refine ⟨?_, hsum, Nat.lt_of_lt_of_le hys hle⟩
  rw [u64_or_nat _ _ (by omega) (by omega), nat_join (4 * s + 4) x (y * 2 ^ (4 * s)) hm hys]

/-- The walk at place i of a text whose digits so far are digits. -/
structure PI (w : World) (t : ByteArray) (xb ib N i : Nat) (m : List Nat) (wr : World) : Prop where
  it : wr.heap[ib]? = some (.stringIter t i)
  x : wr.heap[xb]? = some (.cells (nums .u64 (ints m)).toArray 41 (0, 0))
  below : Below w.heap.size w wr
  okm : ok 64 m
  len : m.length = N
  val : Num.val 64 m = hexV (t.data.toList.take i) * 2 ^ (4 * (t.size - i))
  hex : hexOk (t.data.toList.take i)

theorem PI.zero {w W : World} {t : ByteArray} {xb ib N : Nat} (hit : W.heap[ib]? = some (.stringIter t 0)) (hx : W.heap[xb]? = some (.cells (madeCells #[.int .u64 0] N) 41 (0, 0))) (hb : Below w.heap.size w W) : PI w t xb ib N 0 (List.replicate N 0) W := by
  refine ⟨hit, ?_, hb, fun x hx => by rw [List.mem_replicate] at hx; rw [hx.2]; decide, by simp, by rw [val_zeros]; simp [hexV], fun c hc => by simp at hc⟩
  rw [hx, made_nums]
  simp [ints]
theorem PI.step {w wr w3 : World} {t : ByteArray} {xb ib N i : Nat} {m : List Nat} (h : PI w t xb ib N i m wr) (hlt : i < t.size) (hN : N = (t.size + 15) / 16) (hne : ib ≠ xb) (hxb : w.heap.size ≤ xb) (hib : w.heap.size ≤ ib)
    (y q s Y : Nat) (hy : hexd (t[i]'hlt).toNat = (y : Int)) (hq : q = (t.size - 1 - i) / 16) (hs : s = 4 * ((t.size - 1 - i) % 16)) (hY : Y = y * 2 ^ s) (n3 : Nat) (h3 : w3 = (wr.putObj ib (.stringIter t (i + 1))).drewN n3) :
    PI w t xb ib N (i + 1) (m.set q (m.getD q 0 + Y)) ((w3.setCell ⟨xb, q, none⟩ (.int .u64 (Go.bits .or .u64 ((m.getD q 0 : Nat) : Int) (Y : Int)))).drew) := by
  have hy16 : y < 16 := by have := hexd_le (t[i]'hlt).toNat; omega
  have hqm : q < m.length := by rw [h.len, hN, hq]; omega
  have hl : t.data.toList.length = t.size := by simp
  have hv0 := h.val
  have hv : Num.val 64 m = hexV (t.data.toList.take i) * 2 ^ (4 * ((t.size - 1 - i) + 1)) := by rw [hv0]; congr 2; omega
  obtain ⟨p1, p2, p3⟩ := or_place4 m h.okm _ (t.size - 1 - i) y hv (by rw [← hq]; exact hqm) hy16
  rw [← hq, ← hs, ← hY] at p1 p2
  have hge : (t.data.toList[i]'(by rw [hl]; exact hlt)) = t[i]'hlt := rfl
  have hibs : ib < wr.heap.size := (Array.getElem?_eq_some_iff.1 h.it).1
  have hx3 : w3.heap[xb]? = some (.cells (nums .u64 (ints m)).toArray 41 (0, 0)) := by
    rw [h3]
    show (wr.putObj ib (.stringIter t (i + 1))).heap[xb]? = _
    rw [World.putObj_heap_other hne.symm]
    exact h.x
  have hi3 : w3.heap[ib]? = some (.stringIter t (i + 1)) := by
    rw [h3]
    show (wr.putObj ib (.stringIter t (i + 1))).heap[ib]? = _
    exact World.putObj_heap_same hibs
  have hb3 : Below w.heap.size w w3 := by
    rw [h3]
    refine h.below.trans ⟨rfl, rfl, rfl, by show _ ≤ (wr.putObj ib (.stringIter t (i + 1))).heap.size; simp [World.putObj], fun k hk => ?_⟩
    show (wr.putObj ib (.stringIter t (i + 1))).heap[k]? = _
    exact World.putObj_heap_other (by omega)
  refine ⟨?_, ?_, (hb3.setCell (by show w.heap.size ≤ xb; exact hxb) _).drew, ok_set h.okm _ _ p2, by rw [List.length_set]; exact h.len, ?_, ?_⟩
  · exact (Below.heap_setCell _ _ _ _ (by show ib ≠ xb; exact hne)).trans hi3
  · have := blk_set hx3 q (.int .u64 (Go.bits .or .u64 ((m.getD q 0 : Nat) : Int) (Y : Int)))
    refine this.trans ?_
    rw [p1]
    simp [nums, ints, List.map_set]
  · have hvs := Q.val_set 64 m q (m.getD q 0 + Y) hqm
    rw [Nat.add_mul] at hvs
    have e3 : Y * 2 ^ (64 * q) = y * 2 ^ (4 * (t.size - 1 - i)) := by rw [hY, Nat.mul_assoc, ← Nat.pow_add]; congr 2; omega
    have e4 : hexV (t.data.toList.take (i + 1)) * 2 ^ (4 * (t.size - (i + 1))) = hexV (t.data.toList.take i) * 2 ^ (4 * (t.size - i)) + y * 2 ^ (4 * (t.size - 1 - i)) := by
      rw [hexV_take _ i (by rw [hl]; exact hlt), hge, hy, Int.toNat_natCast, Nat.add_mul, show t.size - (i + 1) = t.size - 1 - i by omega, show 4 * (t.size - i) = 4 + 4 * (t.size - 1 - i) by omega, Nat.pow_add]
      congr 1
      rw [← Nat.mul_assoc]
    rw [e3] at hvs
    rw [e4, ← hv0]
    generalize Num.val 64 m = V at hvs ⊢
    generalize Num.val 64 (m.set q (m.getD q 0 + Y)) = V' at hvs ⊢
    generalize m.getD q 0 * 2 ^ (64 * q) = U at hvs
    generalize y * 2 ^ (4 * (t.size - 1 - i)) = Z at hvs ⊢
    omega
  · intro c hc
    rw [List.take_succ_eq_append_getElem (by rw [hl]; exact hlt)] at hc
    rcases List.mem_append.1 hc with h1 | h1
    · exact h.hex c h1
    · rw [List.mem_singleton] at h1
      rw [h1, hge, hy]
      omega

theorem PI.pos {w wr : World} {t : ByteArray} {xb ib N i : Nat} {m : List Nat} (h : PI w t xb ib N i m wr) : wr.iterPos ib = i := by
  simp [World.iterPos, h.it]

set_option maxRecDepth 100000 in
set_option maxHeartbeats 4000000 in
theorem parse_go (s t : ByteArray) (w : World) (hc : strings_CutPrefix.f s ⟨#[48, 120]⟩ = some (t, true)) (h0 : 0 < t.size) (h1 : t.size ≤ 4800) (hl : ¬ (t.data.toList[0]? = some 48 ∧ t.data.toList ≠ [48])) :
    Calls Try.prog 33 #[.string s] w fun e w' => ∃ v0_ : Value, e = .returned (.tuple #[v0_, .bool (decide (hexOk t.data.toList))]) ∧ Kd.R (Kd.int .u64) 41 w' w.heap.size (fun _ => True) v0_ (if hexOk t.data.toList then ints (digs 64 ((t.size + 15) / 16) (hexV t.data.toList)) else []) ∧ Below w.heap.size w w' := by
  have HC : Hid (Calls Try.prog 68 #[.string s, .string ⟨#[48, 120]⟩] w fun e w' => e = .returned (.tuple #[.string t, .bool true]) ∧ Drawn0 w w') := strings_CutPrefix.calls _ _ _ _ w hc
  clear hc
  have hE : t.toList.isEmpty = false := by
    rw [Lib.toList_data]
    simp
    intro e
    have h2 : t.data.size = 0 := by rw [e]; rfl
    have h3 : 0 < t.data.size := h0
    omega
  have hL : decide (4800 < (t.size : Int)) = false := decide_eq_false (by omega)
  obtain ⟨N, hN⟩ : ∃ N, N = (t.size + 15) / 16 := ⟨_, rfl⟩
  have hmk : ∀ W : World, (Instr.makeSlice 25 (.int .i64 (((t.size : Int) + 15) / 16)) (.int .i64 (((t.size : Int) + 15) / 16))).run Try.prog W = .ok (.slice (some ⟨W.heap.size, 0, none⟩) N N) (W.alloc (.cells (madeCells #[.int .u64 0] N) 41)) := by
    rw [show ((t.size : Int) + 15) / 16 = (N : Int) by omega]
    exact print_make 25 41 .u64 8 Try.underlying25 (by kernel_rfl) (by decide) N (by omega)
  have HN := Lib.hid hN
  clear hN
  go_enter Try.func33, Try.ntmps33
  go_wp2_with fail
  refine HC.out.mono ?_
  rintro e w1 ⟨rfl, hd1⟩
  obtain ⟨n1, rfl⟩ := hd1.out
  clear hd1
  have hzb : (t[0]'h0).toNat = 48 → (t.toList == [48]) = true := fun hz => by
    rw [beq_iff_eq, Lib.toList_data]
    refine Classical.byContradiction fun hne => hl ⟨?_, hne⟩
    have e : t.data.toList[0]? = some (t[0]'h0) := by
      rw [List.getElem?_eq_getElem (by simpa using h0)]
      rfl
    rw [e]
    congr 1
    exact UInt8.toNat_inj.1 hz
  have hz0 : t.data.toList.length = t.size := by simp
  have hz3 : ((t[0]'h0).toNat : Int) = 48 ∧ (t.toList == [48]) = true ∨ ¬ ((t[0]'h0).toNat : Int) = 48 := by
    by_cases hz : (t[0]'h0).toNat = 48
    · exact .inl ⟨by omega, hzb hz⟩
    · exact .inr (by omega)
  clear hzb hl
  have HZ0 := Lib.hid hz0
  clear hz0
  rcases hz3 with ⟨hz1, hz2⟩ | hz1
  all_goals
    go_wp2
    go_loopw [10] (fun v wr => ∃ (i : Nat) (m : List Nat), i ≤ t.size ∧ PI w t w.heap.size (w.heap.size + 1) N i m wr) (fun _ wr => t.size - wr.iterPos (w.heap.size + 1))
    case atStart =>
      refine ⟨0, List.replicate N 0, Nat.zero_le _, PI.zero ?_ ?_ ?_⟩
      · show (World.alloc _ (.stringIter t 0)).heap[_]? = _
        rw [heap_at, if_pos (by simp)]
      · show (World.alloc _ (.stringIter t 0)).heap[_]? = _
        rw [heap_at, if_neg (by simp), heap_at, if_pos (by rfl)]
      · exact ((⟨rfl, rfl, rfl, Nat.le_refl _, fun _ _ => rfl⟩ : Below w.heap.size w (w.drewN n1)).alloc (Nat.le_refl _) _).alloc (by simp) _
    case round =>
      obtain ⟨i, m, hi, hI⟩ := hrel
      have HI := Lib.hid hI
      by_cases hlt : i < t.size
      · have hnx := fun ty => run_next_at (P := Try.prog) wr (w.heap.size + 1) i t ty hI.it hlt
        have hxw := hI.x
        clear hI
        obtain ⟨W2, hW2⟩ : ∃ W2, W2 = wr.putObj (w.heap.size + 1) (.stringIter t (i + (Utf8.decode t i).2)) := ⟨_, rfl⟩
        rw [← hW2] at hnx
        have hx2 : W2.heap[w.heap.size]? = some (.cells (nums .u64 (ints m)).toArray 41 (0, 0)) := by
          rw [hW2, World.putObj_heap_other (by omega)]
          exact hxw
        have HX2 := Lib.hid hx2
        have HW2 := Lib.hid hW2
        clear hW2 hxw hx2
        obtain ⟨c, wd, hcd⟩ : ∃ c wd, Utf8.decode t i = (c, wd) := ⟨_, _, rfl⟩
        obtain ⟨d, hd⟩ : ∃ d, d = hexd (c % 256) := ⟨_, rfl⟩
        have HIB : Hid (Calls Try.prog 69 #[.string ⟨#[48, 49, 50, 51, 52, 53, 54, 55, 56, 57, 97, 98, 99, 100, 101, 102]⟩, .int .u8 ((c : Int) % 256)] W2 fun e w' => e = .returned (.int .i64 d) ∧ Drawn0 W2 w') := by
          refine strings_IndexByte.calls _ _ d W2 ?_
          unfold strings_IndexByte.f
          rw [show ((c : Int) % 256).toNat = c % 256 by omega, hd]
          exact congrArg some (index_digits (c % 256) (by omega))
        have hd0 : hexd (c % 256) ≤ 15 := hexd_le _
        by_cases hgo : (t[i]'hlt).toNat < 128 ∧ 0 ≤ d
        · have hcd2 := decode_ascii t i hlt hgo.1
          rw [hcd] at hcd2
          obtain ⟨rfl, rfl⟩ := Prod.mk.inj hcd2
          have HGO := Lib.hid hgo
          obtain ⟨y, rfl⟩ : ∃ y : Nat, d = (y : Int) := ⟨d.toNat, by have := hgo.2; omega⟩
          obtain ⟨k, hk⟩ : ∃ k, k = t.size - 1 - i := ⟨_, rfl⟩
          have hk1 : ((t.size : Int) - 1 - (i : Int)) = (k : Int) := by omega
          have kk1 : (0 : Int) ≤ (k : Int) := by omega
          have kk2 : (k : Int) ≤ 4800 := by omega
          obtain ⟨q, hq⟩ : ∃ q, q = k / 16 := ⟨_, rfl⟩
          obtain ⟨r, hr⟩ : ∃ r, r = k % 16 := ⟨_, rfl⟩
          obtain ⟨s, hs⟩ : ∃ s, s = 4 * r := ⟨_, rfl⟩
          have hk2 : (k : Int) / 16 = (q : Int) := by omega
          have hk3 : (k : Int) % 16 = (r : Int) := by omega
          have hk6 : (k : Int).tmod 16 = (r : Int) := by rw [Int.tmod_eq_emod_of_nonneg (by omega)]; omega
          have hk7 : (k : Int).tdiv 16 = (q : Int) := by rw [Int.tdiv_eq_ediv_of_nonneg (by omega)]; omega
          have hwy : IntKind.u64.wrap (y : Int) = (y : Int) := by have := IntKind.wrap_u64 (y : Int); omega
          have hk4 : IntKind.i64.wrap (q : Int) = (q : Int) := by rw [IntKind.wrap_i64]; omega
          have hk5 : IntKind.i64.wrap (r : Int) = (r : Int) := by rw [IntKind.wrap_i64]; omega
          have hs1 : IntKind.i64.wrap (4 * (r : Int)) = (s : Int) := by rw [IntKind.wrap_i64]; omega
          have hs3 : (4 * (r : Int)) = (s : Int) := by omega
          have hs4 : IntKind.i64.wrap (s : Int) = (s : Int) := by rw [IntKind.wrap_i64]; omega
          have hq0 : (0 : Int) ≤ (q : Int) := by omega
          have hr0 : (0 : Int) ≤ (r : Int) := by omega
          have hr1 : (r : Int) ≤ 15 := by omega
          have hs0 : (0 : Int) ≤ (s : Int) := by omega
          have hs2 : (s : Int) ≤ 60 := by omega
          have hy16 : y < 16 := by omega
          have hyb : y * 2 ^ s < 2 ^ 64 := by
            have h1 : y * 2 ^ s < 16 * 2 ^ s := Nat.mul_lt_mul_of_pos_right hy16 (pow_pos' _)
            have h2 : 16 * 2 ^ s ≤ 16 * 2 ^ 60 := Nat.mul_le_mul_left _ (Nat.pow_le_pow_right (by decide) (by omega))
            omega
          obtain ⟨Y, hY⟩ : ∃ Y, Y = y * 2 ^ s := ⟨_, rfl⟩
          have hYc : (y : Int) * 2 ^ s = (Y : Int) := by rw [hY, Int.natCast_mul, Int.natCast_pow]; rfl
          have hsh0 : IntKind.u64.wrap (Y : Int) = (Y : Int) := by have := IntKind.wrap_u64 (Y : Int); omega
          have hsh1 : IntKind.u64.wrap ((y : Int) * 2 ^ min s 64) = (Y : Int) := by rw [Nat.min_eq_left (by omega), hYc, hsh0]
          have hsh2 : IntKind.u64.wrap ((y : Int) * 2 ^ s) = (Y : Int) := by rw [hYc, hsh0]
          have hsh3 : ((y : Int) * 2 ^ s) % 18446744073709551616 = (Y : Int) := by rw [hYc]; omega
          have hsh4 : ((y : Int) * 2 ^ min s 64) % 18446744073709551616 = (Y : Int) := by rw [Nat.min_eq_left (by omega), hYc]; omega
          have hb : ∀ W : World, (binOp .shl 41 (.int .u64 (y : Int)) (.int .i64 (s : Int))).run Try.prog W = .ok (.int .u64 (Y : Int)) W := fun W => by
            simp [binOp, Try.underlying41, go_sem, hs0, hsh1, hsh2, hsh3, hsh4]
          have HS := Lib.hid hs
          have HY := Lib.hid hY
          clear hs hY hYc hsh0 hyb
          have f1 : decide ((y : Int) < 0) = false := decide_eq_false (by omega)
          have f2 : ((t[i]'hlt).toNat : Int) ≤ 102 := by
            refine Int.not_lt.1 fun h => ?_
            rw [Nat.mod_eq_of_lt (by omega), hexd_high (by omega)] at hd
            omega
          have hkN : (q : Int) < (N : Int) := by have := HN.out; omega
          have HQ := Lib.hid hq
          have HR := Lib.hid hr
          clear hq hr
          have hy15 : y < 16 := by have := hd0; omega
          have HD := Lib.hid hd
          have HCD := Lib.hid hcd
          have HK := Lib.hid hk
          have HIB2 : Hid (Calls Try.prog 69 #[.string ⟨#[48, 49, 50, 51, 52, 53, 54, 55, 56, 57, 97, 98, 99, 100, 101, 102]⟩, .int .u8 ((t[i]'hlt).toNat : Int)] W2 fun e w' => e = .returned (.int .i64 (y : Int)) ∧ Drawn0 W2 w') := by
            have h8 := HIB.out
            rw [show (((t[i]'hlt).toNat : Int) % 256) = ((t[i]'hlt).toNat : Int) by omega] at h8
            exact h8
          clear hd hcd2 hgo hk HIB
          go_wp2_with fail
          refine HIB2.out.mono ?_
          rintro e w3 ⟨rfl, hd3⟩
          have hx3 : w3.heap[w.heap.size]? = some (.cells (nums .u64 (ints m)).toArray 41 (0, 0)) := by
            obtain ⟨n3, rfl⟩ := hd3.out
            exact HX2.out
          have HD3 := Lib.hid hd3
          have hqN : q < m.length := by rw [HI.out.len]; omega
          have hcx : w3.cell? ⟨w.heap.size, q, none⟩ = some (.int .u64 ((m.getD q 0 : Nat) : Int)) := by
            rw [blk_cell hx3 q]
            simp [nums, ints, hqN]
          have hfx : w3.frozen? ⟨w.heap.size, q, none⟩ = false := blk_frozen hx3 q
          clear hd3 hx3
          go_wp2_with fail
          go_still_tail 13, (by kernel_rfl)
          go_wp2
          go_roundw
          case rel =>
            obtain ⟨n3, h3⟩ := HD3.out
            have hst := HI.out.step (w3 := w3) hlt HN.out (by omega) (Nat.le_refl _) (by omega) y q s Y (by have := HD.out; rw [Nat.mod_eq_of_lt (by omega)] at this; exact this.symm) (by rw [HQ.out, HK.out]) (by rw [HS.out, HR.out, HK.out]) HY.out n3 (by rw [h3, HW2.out, hcd])
            rw [show m.getD q 0 = m[q] by simp [hqN]] at hst
            exact ⟨i + 1, _, by omega, hst⟩
          case measure =>
            obtain ⟨n3, h3⟩ := HD3.out
            have hst := HI.out.step (w3 := w3) hlt HN.out (by omega) (Nat.le_refl _) (by omega) y q s Y (by have := HD.out; rw [Nat.mod_eq_of_lt (by omega)] at this; exact this.symm) (by rw [HQ.out, HK.out]) (by rw [HS.out, HR.out, HK.out]) HY.out n3 (by rw [h3, HW2.out, hcd])
            rw [show m.getD q 0 = m[q] by simp [hqN]] at hst
            rw [hst.pos, HI.out.pos]
            omega
        · have hno : Hid (¬ hexOk t.data.toList) := by
            show ¬ _
            intro hok
            have h1 := hok (t[i]'hlt) (List.mem_of_getElem (i := i) (h := by rw [HZ0.out]; exact hlt) rfl)
            by_cases h8 : (t[i]'hlt).toNat < 128
            · have hcd2 := decode_ascii t i hlt h8
              rw [hcd] at hcd2
              obtain ⟨rfl, rfl⟩ := Prod.mk.inj hcd2
              rw [Nat.mod_eq_of_lt (by omega)] at hd
              exact hgo ⟨h8, by rw [hd]; exact h1⟩
            · rw [hexd_high (by omega)] at h1
              omega
          have hB2 : Hid (Below w.heap.size w W2) := by
            show Below _ _ _
            rw [HW2.out]
            exact HI.out.below.trans ⟨rfl, rfl, rfl, by simp [World.putObj], fun k hk => World.putObj_heap_other (by omega)⟩
          have hcl : (c : Int) % 256 < 256 := by omega
          by_cases hdn : d < 0
          · clear hgo hd
            go_wp2_with fail
            refine HIB.out.mono ?_
            rintro e w3 ⟨rfl, hd3⟩
            have HD3 := Lib.hid hd3
            clear hd3
            go_wp2_with fail
            refine bodyPost_ret (v := .tuple #[.slice none 0 0, .bool false]) (by simp [results, go_sem]) rfl ?_
            obtain ⟨n3, rfl⟩ := HD3.out
            exact ⟨_, rfl, Kd.R_of_own (World.ownsRow_nil _ _ _ _) (fun _ _ => trivial), hB2.out.trans ⟨rfl, rfl, rfl, Nat.le_refl _, fun _ _ => rfl⟩⟩
          · have hch : (102 : Int) < (c : Int) := by
              have h8 : ¬ (t[i]'hlt).toNat < 128 := fun h => hgo ⟨h, by omega⟩
              have := (decode_high t i hlt (by omega)).1
              rw [hcd] at this
              simp only at this
              omega
            have hdn1 : (0 : Int) ≤ d := by omega
            clear hgo hd hdn
            go_wp2_with fail
            refine HIB.out.mono ?_
            rintro e w3 ⟨rfl, hd3⟩
            have HD3 := Lib.hid hd3
            clear hd3
            go_wp2_with fail
            refine bodyPost_ret (v := .tuple #[.slice none 0 0, .bool false]) (by simp [results, go_sem]) rfl ?_
            obtain ⟨n3, rfl⟩ := HD3.out
            exact ⟨_, rfl, Kd.R_of_own (World.ownsRow_nil _ _ _ _) (fun _ _ => trivial), hB2.out.trans ⟨rfl, rfl, rfl, Nat.le_refl _, fun _ _ => rfl⟩⟩
      · obtain rfl : i = t.size := by omega
        have hnx := fun ty => run_next_at_end (P := Try.prog) wr (w.heap.size + 1) t.size t ty hI.it hlt
        have hyes : Hid (hexOk t.data.toList) := by
          show hexOk _
          have := hI.hex
          rwa [List.take_of_length_le (by rw [HZ0.out]; exact Nat.le_refl _)] at this
        have hval : Hid (ints (digs 64 ((t.size + 15) / 16) (hexV t.data.toList)) = ints m) := by
          show _ = _
          have h1 := hI.val
          rw [List.take_of_length_le (by rw [HZ0.out]; exact Nat.le_refl _), Nat.sub_self, Nat.mul_zero, Nat.pow_zero, Nat.mul_one] at h1
          rw [← h1, ← HN.out, ← hI.len, digs_val hI.okm]
        clear hI
        go_wp2_with fail
        refine bodyPost_ret (v := .tuple #[.slice (some ⟨w.heap.size, 0, none⟩) N N, .bool true]) (by simp [results, go_sem]) rfl ?_
        rw [hval.out]
        refine ⟨_, rfl, Kd.R_of_own ?_ (fun _ _ => trivial), HI.out.below⟩
        have hln : (ints m).length = N := by rw [ints_length, HI.out.len]
        have hN5 : N ≤ 300 := by have := HN.out; omega
        exact ⟨by simp [encs], .inr ⟨w.heap.size, N, (nums .u64 (ints m)).toArray, by rw [hln], Nat.le_refl _, HI.out.x, by rw [hln]; exact Nat.le_refl _, Nat.le_trans hN5 (by decide), by simp [nums, hln], by rw [hln]; simp [encs, nums]; exact List.take_of_length_le (by simp [hln])⟩⟩
/-- nat.Parse, in closed form: of a text t behind '0x'. -/
def nat_Parse.f (s : ByteArray) : Option (List Int × Bool) :=
  (strings_CutPrefix.f s ⟨#[48, 120]⟩).bind fun r =>
    if r.2 = true ∧ 0 < r.1.size ∧ r.1.size ≤ 4800 ∧ ¬ (r.1.data.toList[0]? = some 48 ∧ r.1.data.toList ≠ [48]) ∧ hexOk r.1.data.toList
    then some (ints (digs 64 ((r.1.size + 15) / 16) (hexV r.1.data.toList)), true) else some ([], false)

set_option maxRecDepth 100000 in
set_option maxHeartbeats 4000000 in
theorem parse_no (s t : ByteArray) (is : Bool) (w : World) (hc : strings_CutPrefix.f s ⟨#[48, 120]⟩ = some (t, is)) (hno : ¬ (is = true ∧ 0 < t.size ∧ t.size ≤ 4800 ∧ ¬ (t.data.toList[0]? = some 48 ∧ t.data.toList ≠ [48]))) :
    Calls Try.prog 33 #[.string s] w fun e w' => ∃ v0_ : Value, e = .returned (.tuple #[v0_, .bool false]) ∧ Kd.R (Kd.int .u64) 41 w' w.heap.size (fun _ => True) v0_ ([] : List Int) ∧ Below w.heap.size w w' := by
  have HC : Hid (Calls Try.prog 68 #[.string s, .string ⟨#[48, 120]⟩] w fun e w' => e = .returned (.tuple #[.string t, .bool is]) ∧ Drawn0 w w') := strings_CutPrefix.calls _ _ _ _ w hc
  clear hc
  have fin : ∀ n1, ∃ v0_ : Value, Ending.returned (.tuple #[.slice none 0 0, .bool false]) = Ending.returned (.tuple #[v0_, .bool false]) ∧ Kd.R (Kd.int .u64) 41 (w.drewN n1) w.heap.size (fun _ => True) v0_ ([] : List Int) ∧ Below w.heap.size w (w.drewN n1) := fun n1 =>
    ⟨_, rfl, Kd.R_of_own (World.ownsRow_nil _ _ _ _) (fun _ _ => trivial), ⟨rfl, rfl, rfl, Nat.le_refl _, fun _ _ => rfl⟩⟩
  have FIN := Lib.hid fin
  clear fin
  cases is with
  | false =>
    clear hno
    go_enter Try.func33, Try.ntmps33
    go_wp2_with fail
    refine HC.out.mono ?_
    rintro e w1 ⟨rfl, hd1⟩
    obtain ⟨n1, rfl⟩ := hd1.out
    clear hd1
    go_wp2_with fail
    exact bodyPost_ret (v := .tuple #[.slice none 0 0, .bool false]) (by simp [results, go_sem]) rfl (FIN.out n1)
  | true =>
    by_cases h0 : 0 < t.size
    · have hE : t.toList.isEmpty = false := by
        rw [Lib.toList_data]
        simp
        intro e
        have h2 : t.data.size = 0 := by rw [e]; rfl
        have h3 : 0 < t.data.size := h0
        omega
      by_cases h1 : t.size ≤ 4800
      · have hL : decide (4800 < (t.size : Int)) = false := decide_eq_false (by omega)
        have hl : t.data.toList[0]? = some 48 ∧ t.data.toList ≠ [48] := Classical.byContradiction fun h => hno ⟨rfl, h0, h1, h⟩
        have e : t.data.toList[0]? = some (t[0]'h0) := by
          rw [List.getElem?_eq_getElem (by simpa using h0)]
          rfl
        have hz1 : ((t[0]'h0).toNat : Int) = 48 := by
          rw [e] at hl
          rw [Option.some.inj hl.1]
          rfl
        have hz2 : (t.toList == [48]) = false := by
          rw [beq_eq_false_iff_ne, Lib.toList_data]
          exact hl.2
        clear hno hl e
        go_enter Try.func33, Try.ntmps33
        go_wp2_with fail
        refine HC.out.mono ?_
        rintro e w1 ⟨rfl, hd1⟩
        obtain ⟨n1, rfl⟩ := hd1.out
        clear hd1
        go_wp2_with fail
        exact bodyPost_ret (v := .tuple #[.slice none 0 0, .bool false]) (by simp [results, go_sem]) rfl (FIN.out n1)
      · have hL : decide (4800 < (t.size : Int)) = true := decide_eq_true (by omega)
        clear hno
        go_enter Try.func33, Try.ntmps33
        go_wp2_with fail
        refine HC.out.mono ?_
        rintro e w1 ⟨rfl, hd1⟩
        obtain ⟨n1, rfl⟩ := hd1.out
        clear hd1
        go_wp2_with fail
        exact bodyPost_ret (v := .tuple #[.slice none 0 0, .bool false]) (by simp [results, go_sem]) rfl (FIN.out n1)
    · have hE : t.toList.isEmpty = true := by
        rw [Lib.toList_data]
        have h2 : t.data.size = 0 := by
          have h3 : ¬ 0 < t.data.size := h0
          omega
        rw [List.isEmpty_iff]
        exact List.eq_nil_of_length_eq_zero (by rw [Array.length_toList]; exact h2)
      clear hno
      go_enter Try.func33, Try.ntmps33
      go_wp2_with fail
      refine HC.out.mono ?_
      rintro e w1 ⟨rfl, hd1⟩
      obtain ⟨n1, rfl⟩ := hd1.out
      clear hd1
      go_wp2_with fail
      exact bodyPost_ret (v := .tuple #[.slice none 0 0, .bool false]) (by simp [results, go_sem]) rfl (FIN.out n1)

theorem nat_Parse.calls (s : ByteArray) (r1 : List Int) (r2 : Bool) (w : World) (h : nat_Parse.f s = some (r1, r2)) :
    Calls Try.prog 33 #[.string s] w fun e w' => ∃ v0_ : Value, e = .returned (.tuple #[v0_, .bool r2]) ∧ Kd.R (Kd.int .u64) 41 w' w.heap.size (fun _ => True) v0_ r1 ∧ Below w.heap.size w w' := by
  unfold nat_Parse.f at h
  obtain ⟨⟨t, is⟩, hc, h⟩ := Option.bind_eq_some_iff.1 h
  simp only at h
  by_cases hg : is = true ∧ 0 < t.size ∧ t.size ≤ 4800 ∧ ¬ (t.data.toList[0]? = some 48 ∧ t.data.toList ≠ [48])
  · obtain ⟨rfl, h0, h1, hl⟩ := hg
    have hgo := parse_go s t w hc h0 h1 hl
    by_cases hx : hexOk t.data.toList
    · rw [if_pos ⟨rfl, h0, h1, hl, hx⟩] at h
      cases h
      rw [decide_eq_true hx, if_pos hx] at hgo
      exact hgo
    · rw [if_neg (fun h => hx h.2.2.2.2)] at h
      cases h
      rw [decide_eq_false hx, if_neg hx] at hgo
      exact hgo
  · rw [if_neg (fun h => hg ⟨h.1, h.2.1, h.2.2.1, h.2.2.2.1⟩)] at h
    cases h
    exact parse_no s t is w hc hg
end Go.Proofs.Ytflchcdmgceecaa.H
