/- The contract of nat.Resize, by walking its text: a number in so many words, or refused. -/
import Derived.Test.YtflchcdmgceecaaHNatBytes
set_option linter.unusedVariables false
set_option linter.unusedSimpArgs false
namespace Go.Proofs.Ytflchcdmgceecaa.H
open Go.RowKit Go.Proofs.YtflchcdmgceecaaW.PrintWords Go.Proofs.YtflchcdmgceecaaW.PrintLast Go.Proofs.Ytflchcdmgceecaa.PA Go.Proofs.Ytflchcdmgceecaa.Num
attribute [local go_sem] Oper.semAt_some

/-- 'copy' of numbers that are read, into a block of the call's own. -/
theorem run_copy_read (P : Program) (w : World) (dT sT ty elem : TypeId) (g o dLen dCap : Nat) (A0 : Option Addr) (sLen sCap : Nat) (cur : Array Value) (t : TypeId) (k : IntKind) (xs : List Int)
    (hu : P.underlying dT = some (.slice elem)) (hs : (P.info? elem).map (·.size) = some 1) (hg : w.heap[g]? = some (.cells cur t (0, 0)))
    (hC : Kd.C (Kd.int k) w A0 xs.length xs) (hsl : sLen = xs.length) (hd : sLen ≤ dLen) (hfit : o + sLen ≤ cur.size) :
    (Builtin.copy_ #[dT, sT] ty #[.slice (some ⟨g, o, none⟩) dLen dCap, .slice A0 sLen sCap]).run P w =
      .ok (goInt sLen) (w.setRow g (cur.toList.take o ++ nums k xs ++ cur.toList.drop (o + sLen)).toArray) := by
  subst hsl
  have h1 := Kd.reads_of_C (d := (0 : Int)) hC
  have hnl : (nums k xs).length = xs.length := by simp [nums]
  by_cases hn : 0 < xs.length
  · obtain ⟨ad, rfl, hc⟩ := h1.2.2 hn
    have := run_copy_row P w dT sT ty elem g o dLen dCap ad xs.length sCap cur t (nums k xs) hu hs hg (by rw [hnl]; exact (Nat.min_eq_left hd).symm)
      (fun j v hj => by
        have hjl : j < xs.length := by
          have := (List.getElem?_eq_some_iff.1 hj).1
          rwa [hnl] at this
        have e := hc j hjl
        simp [nums, List.getElem?_eq_getElem hjl] at hj
        simp [List.getD_eq_getElem?_getD, List.getElem?_eq_getElem hjl] at e
        rw [← hj]
        simpa using e) (by rw [hnl]; exact hfit) (fun v hv => by simp only [nums, List.mem_map] at hv; obtain ⟨x, _, rfl⟩ := hv; rfl)
    rw [hnl] at this
    exact this
  · have h0 : xs = [] := List.eq_nil_of_length_eq_zero (by omega)
    subst h0
    rw [run_copy_none (P := P) w dT sT ty elem _ _ dLen dCap _ sCap hu hs (by simp)]
    congr 1
    simp only [nums, List.map_nil, List.append_nil, List.length_nil, Nat.add_zero, List.take_append_drop, Array.toArray_toList]
    exact (setRow_self w g cur t (0, 0) hg).symm

set_option maxRecDepth 100000 in
set_option maxHeartbeats 4000000 in
theorem resize_go (A0 : Option Addr) (c0 : Nat) (l0 : List Int) (t N : Nat) (w : World) (hr0 : Kd.C (Kd.int .u64) w A0 l0.length l0) (hc0 : l0.length ≤ c0) (hb0 : inB 64 l0) (hm0 : l0.length ≤ 140737488351232) (ht : t = need 64 (val 64 (nats l0))) (hN : N ≤ 300) (htN : t ≤ N) :
    Calls Try.prog 23 #[.slice A0 l0.length c0, .int .i64 (N : Int)] w fun e w' => ∃ v0_ : Value, e = .returned (.tuple #[v0_, .int .i64 0]) ∧ Kd.R (Kd.int .u64) 41 w' w.heap.size (fun _ => True) v0_ (l0.take t ++ List.replicate (N - t) 0) ∧ Below w.heap.size w w' := by
  have htl : t ≤ l0.length := by rw [ht]; exact Q.need_len hb0
  have hmk : ∀ W : World, (Instr.makeSlice 25 (.int .i64 (N : Int)) (.int .i64 (N : Int))).run Try.prog W = .ok (.slice (some ⟨W.heap.size, 0, none⟩) N N) (W.alloc (.cells (madeCells #[.int .u64 0] N) 41)) := print_make 25 41 .u64 8 Try.underlying25 (by kernel_rfl) (by decide) N (by omega)
  have hL : ∀ W : World, Kd.C (Kd.int .u64) W A0 l0.length l0 → Calls Try.prog 65 #[.slice A0 l0.length c0] W fun e w' => e = .returned (.int .i64 (t : Int)) ∧ Drawn0 W w' := fun W hC => nat_least.calls _ A0 c0 l0 t W hC hc0 (by rw [ht]; exact Q.least_spec hb0 hm0 (l0.length + 1) (by omega))
  clear ht
  go_enter Try.func23, Try.ntmps23
  go_wp2_with fail
  refine (hL _ hr0).mono ?_
  rintro e w1 ⟨rfl, hd1⟩
  obtain ⟨n1, rfl⟩ := hd1.out
  clear hd1
  go_wp2_with fail
  refine (hL _ (C_same hr0 (fun i hi => by rw [heap_at, if_neg (by simp; omega)]; rfl))).mono ?_
  rintro e w2 ⟨rfl, hd2⟩
  have hbe : Below w.heap.size w w2 := Below.trans (Below.alloc (a := w) (w := w.drewN n1) (B := w.heap.size) ⟨rfl, rfl, rfl, Nat.le_refl _, fun _ _ => rfl⟩ (Nat.le_refl _) _) (hd2.below.mono (by simp))
  have hblk : w2.heap[w.heap.size]? = some (.cells (madeCells #[.int .u64 0] N) 41 (0, 0)) := by
    rw [hd2.below.block _ (by simp), heap_at, if_pos (by rfl)]
  clear hd2
  have hCt : Kd.C (Kd.int .u64) w2 A0 (l0.take t).length (l0.take t) := by
    exact Kd.C_take (C_same hr0 (fun i hi => hbe.block i hi)) htl
  have hcopy : ∀ ty, (Builtin.copy_ #[25, 25] ty #[.slice (some ⟨w.heap.size, 0, none⟩) N N, .slice A0 t c0]).run Try.prog w2 = .ok (goInt t) (w2.setRow w.heap.size (nums .u64 (l0.take t ++ List.replicate (N - t) 0)).toArray) := fun ty => by
    have := run_copy_read Try.prog w2 25 25 ty 41 w.heap.size 0 N N A0 t c0 (madeCells #[.int .u64 0] N) 41 .u64 (l0.take t) Try.underlying25 (by kernel_rfl) hblk hCt (by rw [List.length_take, Nat.min_eq_left htl]) htN (by rw [made_nums]; simp [nums]; exact htN)
    rw [this, made_nums]
    simp [nums]
  have HB := Lib.hid hblk
  have HE := Lib.hid hbe
  clear hblk hbe hCt
  go_wp2
  refine bodyPost_ret (v := .tuple #[.slice (some ⟨w.heap.size, 0, none⟩) N N, .int .i64 0]) (by simp [results, go_sem]) rfl ?_
  have hLn : (l0.take t ++ List.replicate (N - t) 0).length = N := by simp; omega
  generalize l0.take t ++ List.replicate (N - t) 0 = L at hLn ⊢
  refine ⟨_, rfl, Kd.R_of_own ⟨by simp [encs], .inr ⟨w.heap.size, N, _, by rw [hLn], Nat.le_refl _, setRow_heap _ _ _ _ _ _ HB.out, by omega, Nat.le_trans hN (by decide), by simp [nums, hLn], by simp [encs, nums]; exact List.take_of_length_le (by simp)⟩⟩ (fun _ _ => trivial), below_setRow' HE.out (Nat.le_refl _) _⟩

/-- nat.Resize, in closed form. -/
def nat_Resize.f (l0 : List Int) (a1 : Int) : Option (List Int × Int) :=
  if inB 64 l0 ∧ l0.length ≤ 140737488351232 then
    (if 300 < a1 then some ([], 2)
     else if a1 < (need 64 (val 64 (nats l0)) : Nat) then some ([], 1)
     else some (ints (digs 64 a1.toNat (val 64 (nats l0))), 0))
  else none

theorem resize_eq {l : List Int} (h : inB 64 l) (N : Nat) (hN : need 64 (val 64 (nats l)) ≤ N) : l.take (need 64 (val 64 (nats l))) ++ List.replicate (N - need 64 (val 64 (nats l))) 0 = ints (digs 64 N (val 64 (nats l))) := by
  obtain ⟨m, hm⟩ : ∃ m, N = need 64 (val 64 (nats l)) + m := ⟨N - need 64 (val 64 (nats l)), by omega⟩
  rw [hm, digs_ext 64 _ m _ (lt_need (by decide) _), Nat.add_sub_cancel_left]
  have := own_take (b := 64) (by decide) (ok_nats h)
  unfold own at this
  rw [← this]
  simp only [ints, List.map_append, List.map_replicate]
  congr 1
  have e := ints_nats (inB_take h (need 64 (val 64 (nats l))))
  rw [← e]
  simp [ints, nats, List.map_take]

set_option maxRecDepth 100000 in
set_option maxHeartbeats 2000000 in
theorem nat_Resize.calls (A0 : Option Addr) (c0 : Nat) (l0 : List Int) (a1 : Int) (r1 : List Int) (r2 : Int) (w : World) (hr0 : Kd.C (Kd.int .u64) w A0 l0.length l0) (hc0 : l0.length ≤ c0) (h : nat_Resize.f l0 a1 = some (r1, r2)) :
    Calls Try.prog 23 #[.slice A0 l0.length c0, .int .i64 a1] w fun e w' => ∃ v0_ : Value, e = .returned (.tuple #[v0_, .int .i64 r2]) ∧ Kd.R (Kd.int .u64) 41 w' w.heap.size (fun _ => True) v0_ r1 ∧ Below w.heap.size w w' := by
  unfold nat_Resize.f at h
  split at h
  case isFalse => cases h
  rename_i hh
  obtain ⟨t, ht⟩ : ∃ t, t = need 64 (val 64 (nats l0)) := ⟨_, rfl⟩
  have hL : Calls Try.prog 65 #[.slice A0 l0.length c0] w fun e w' => e = .returned (.int .i64 (t : Int)) ∧ Below w.heap.size w w' := (nat_least.calls _ A0 c0 l0 t w hr0 hc0 (by rw [ht]; exact Q.least_spec hh.1 hh.2 (l0.length + 1) (by omega))).mono fun e w' h => ⟨h.1, h.2.below⟩
  rw [← ht] at h
  by_cases h1 : 300 < a1
  · rw [if_pos h1] at h
    cases h
    go_enter Try.func23, Try.ntmps23
    go_wp2
    exact bodyPost_ret (v := .tuple #[.slice none 0 0, .int .i64 2]) (by simp [results, go_sem]) rfl ⟨_, rfl, Kd.R_of_own (World.ownsRow_nil _ _ _ _) (fun _ _ => trivial), Below.refl _ _⟩
  · rw [if_neg h1] at h
    by_cases h2 : a1 < (t : Int)
    · rw [if_pos h2] at h
      cases h
      go_enter Try.func23, Try.ntmps23
      go_wp2_with fail
      refine hL.mono ?_
      rintro e w1 ⟨rfl, hb1⟩
      have HB := Lib.hid hb1
      clear hb1
      go_wp2
      exact bodyPost_ret (v := .tuple #[.slice none 0 0, .int .i64 1]) (by simp [results, go_sem]) rfl ⟨_, rfl, Kd.R_of_own (World.ownsRow_nil _ _ _ _) (fun _ _ => trivial), HB.out⟩
    · rw [if_neg h2] at h
      obtain ⟨N, rfl⟩ : ∃ N : Nat, a1 = (N : Int) := ⟨a1.toNat, by omega⟩
      have := resize_go A0 c0 l0 t N w hr0 hc0 hh.1 hh.2 ht (by omega) (by omega)
      rw [ht, resize_eq hh.1 N (by omega)] at this
      rw [Int.toNat_natCast] at h
      cases h
      exact this
end Go.Proofs.Ytflchcdmgceecaa.H
