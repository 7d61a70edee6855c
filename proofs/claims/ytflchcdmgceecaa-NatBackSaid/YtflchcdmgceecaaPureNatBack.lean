/- The plain law of NatBack: a number is read again from its bytes, and from its text. -/
import Derived.Test.YtflchcdmgceecaaPNatBackx1
import Derived.Test.YtflchcdmgceecaaQParse
set_option linter.unusedVariables false
set_option linter.unusedSimpArgs false
namespace Go.Proofs.Ytflchcdmgceecaa.Pure
open Go.RowKit Go.Proofs.Ytflchcdmgceecaa.PNatBack Go.Proofs.YtflchcdmgceecaaW.PrintWords Go.Proofs.YtflchcdmgceecaaW.PrintLast Go.Proofs.Ytflchcdmgceecaa.H Go.Proofs.Ytflchcdmgceecaa.PA Go.Proofs.Ytflchcdmgceecaa.PR Go.Proofs.Ytflchcdmgceecaa.PL Go.Proofs.Ytflchcdmgceecaa.Num Go.Proofs.Ytflchcdmgceecaa.Q

theorem awake60 : sconcelaw03_awake.f 60 = some true := by decide +kernel
theorem awakeOk : ∀ d, sconcelaw03_awake.f (60 + d) = some true
  | 0 => awake60
  | d + 1 => sconcelaw03_awake.mono (60 + d) _ (awakeOk d)

theorem hexd_hb {d : Nat} (h : d < 16) : hexd (UInt8.ofNat (hb d).toNat).toNat = (d : Int) := by
  have h2 : ∀ n : Fin 16, hexd (UInt8.ofNat (hb n.1).toNat).toNat = (n.1 : Int) := by decide +kernel
  exact h2 ⟨d, h⟩
/-- The bytes of a list of numbers. -/
def bys (l : List Int) : List UInt8 := l.map fun n => UInt8.ofNat n.toNat
theorem bys_length (l : List Int) : (bys l).length = l.length := by simp [bys]
theorem hexV_S : ∀ (n v : Nat), hexV (bys (S v n).reverse) = v % 16 ^ n ∧ hexOk (bys (S v n).reverse)
  | 0, v => ⟨by simp [S, bys, hexV, Nat.mod_one], fun c hc => by simp [S, bys] at hc⟩
  | n + 1, v => by
    obtain ⟨h1, h2⟩ := hexV_S n (v / 16)
    have hlt : v % 16 < 16 := Nat.mod_lt _ (by decide)
    have e : bys (S v (n + 1)).reverse = bys (S (v / 16) n).reverse ++ [UInt8.ofNat (hb (v % 16)).toNat] := by
      rw [S_cons, List.reverse_cons]
      simp [bys]
    rw [e]
    refine ⟨?_, ?_⟩
    · rw [hexV_snoc, h1, hexd_hb hlt, Int.toNat_natCast, Nat.pow_succ, Nat.mul_comm (16 ^ n), Nat.mod_mul]
      omega
    · intro c hc
      rcases List.mem_append.1 hc with h | h
      · exact h2 c h
      · rw [List.mem_singleton] at h
        rw [h, hexd_hb hlt]
        omega
theorem lt_nd (v : Nat) : v < 16 ^ nd v := by
  rw [p16]
  have h := lt_bitlen v
  refine Nat.lt_of_lt_of_le h (Nat.pow_le_pow_right (by decide) ?_)
  unfold nd
  omega
theorem prefix_cut (X : ByteArray) : ((⟨#[48, 120]⟩ : ByteArray) ++ X).size = 2 + X.size ∧ (((⟨#[48, 120]⟩ : ByteArray) ++ X).extract 0 2).toList = [48, 120] ∧ ((⟨#[48, 120]⟩ : ByteArray) ++ X).extract 2 ((⟨#[48, 120]⟩ : ByteArray) ++ X).size = X := by
  have hs : ((⟨#[48, 120]⟩ : ByteArray) ++ X).size = 2 + X.size := by rw [ByteArray.size_append]; rfl
  have hd : ((⟨#[48, 120]⟩ : ByteArray) ++ X).data.toList = [48, 120] ++ X.data.toList := by rw [ByteArray.data_append]; simp
  refine ⟨hs, ?_, ?_⟩
  · rw [Lib.toList_data, ByteArray.data_extract, Array.toList_extract, hd]
    rfl
  · apply ByteArray.ext
    apply Array.ext'
    have := (drop_data ((⟨#[48, 120]⟩ : ByteArray) ++ X) (by omega)).1
    rw [this, hd]
    rfl
theorem parse_back (v : Nat) (h : nd v ≤ 4800) : nat_Parse.f ((⟨#[48, 120]⟩ : ByteArray) ++ strOfNums (S v (nd v)).reverse) = some (ints (digs 64 ((nd v + 15) / 16) v), true) := by
  obtain ⟨hs, hp, he⟩ := prefix_cut (strOfNums (S v (nd v)).reverse)
  have hsz : (strOfNums (S v (nd v)).reverse).size = nd v := by rw [strOfNums_size, List.length_reverse, S_length]
  have hpos : 0 < nd v := by unfold nd; omega
  have hd : (strOfNums (S v (nd v)).reverse).data.toList = bys (S v (nd v)).reverse := rfl
  obtain ⟨hv, hok⟩ := hexV_S (nd v) v
  rw [Nat.mod_eq_of_lt (lt_nd v)] at hv
  have hne : ¬ ((bys (S v (nd v)).reverse)[0]? = some 48 ∧ bys (S v (nd v)).reverse ≠ [48]) := by
    rintro ⟨h1, h2⟩
    obtain ⟨m, hm⟩ : ∃ m, nd v = m + 1 := ⟨nd v - 1, by omega⟩
    rw [hm, S_snoc, List.reverse_append] at h1 h2
    simp only [List.reverse_singleton, List.singleton_append, bys, List.map_cons, List.getElem?_cons_zero, Option.some.injEq] at h1 h2
    have hlt : v / 16 ^ m % 16 < 16 := Nat.mod_lt _ (by decide)
    have hz : v / 16 ^ m % 16 = 0 := by
      have h3 := hexd_hb hlt
      rw [h1] at h3
      have : hexd (48 : UInt8).toNat = 0 := by decide
      omega
    by_cases hm0 : m = 0
    · subst hm0
      apply h2
      rw [h1]
      simp [S]
    · have hb : 4 * m < bitlen v := by unfold nd at hm; omega
      have hle := pow_le_of_bitlen hb
      rw [← p16] at hle
      have hlt2 := lt_nd v
      rw [hm, Nat.pow_succ] at hlt2
      have h4 : 1 ≤ v / 16 ^ m := (Nat.le_div_iff_mul_le (Nat.pow_pos (by decide))).2 (by omega)
      have h5 : v / 16 ^ m < 16 := by
        rw [Nat.div_lt_iff_lt_mul (Nat.pow_pos (by decide)), Nat.mul_comm]
        exact hlt2
      rw [Nat.mod_eq_of_lt h5] at hz
      omega
  unfold nat_Parse.f
  rw [cut_spec, if_pos ⟨by omega, hp⟩, Option.bind_some, he, hd, hsz]
  rw [if_pos ⟨rfl, hpos, h, hne, hok⟩, hv]

theorem NatBack : sconcelaw03_NatBack.Pure := by
  intro l0 hm1 hm2 hw1
  have hb : inB 64 l0 := inB_of_wf_u64 hw1
  obtain ⟨K, hK⟩ : ∃ K : Nat, 3000000 < K := ⟨3000001, by omega⟩
  refine ⟨60 + K, ?_⟩
  unfold sconcelaw03_NatBack.f
  rw [awakeOk, Option.bind_some, if_pos rfl]
  obtain ⟨k, hk⟩ : ∃ k, 60 + K = k + 1 := ⟨59 + K, by omega⟩
  rw [hk]
  have hjt : ∀ b, b = true → sconcelaw03_NatBack.j0 (k + 1) l0 b = some true := by
    intro b hb2
    subst hb2
    unfold sconcelaw03_NatBack.j0
    rfl
  by_cases h0 : (l0.length : Int) = 0
  · rw [if_pos h0, hjt _ rfl]
  rw [if_neg h0]
  by_cases h3 : (l0.length : Int) > 300
  · rw [hjt _ (decide_eq_true h3)]
  rw [decide_eq_false h3]
  unfold sconcelaw03_NatBack.j0
  (try dsimp only)
  rw [if_neg (by decide)]
  obtain ⟨n, hn⟩ : ∃ n, n = l0.length := ⟨_, rfl⟩
  have hw : wrap64 (8 * (l0.length : Int)) = ((8 * n : Nat) : Int) := by rw [w64 (by omega) (by omega)]; omega
  obtain ⟨v, hv⟩ : ∃ v, v = val 64 (nats l0) := ⟨_, rfl⟩
  have hlt : v < 2 ^ (64 * n) := by
    have := val_lt (ok_nats hb)
    rw [nats_length, ← hn, ← hv] at this
    exact this
  have hbl : bitlen v ≤ 64 * n := bitlen_le hlt
  have hn3 : n ≤ 300 := by omega
  have hnd : nd v ≤ 4800 := by unfold nd; omega
  have hnd64 : 64 * n ≤ 19200 := by omega
  rw [hw, show_spec hb (by omega) k (by omega), ← hv]
  have hby : nat_Bytes.f l0 ((8 * n : Nat) : Int) = some ((ints (digs 8 (8 * n) v)).reverse, 0) := by
    unfold nat_Bytes.f
    rw [if_pos (c := inB 64 l0 ∧ l0.length ≤ 140737488351232) ⟨hb, by omega⟩, if_neg (by omega), ← hv, if_neg (by omega), Int.toNat_natCast]
  have hlen8 : ((ints (digs 8 (8 * n) v)).reverse).length = 8 * n := by rw [List.length_reverse, ints_length, digs_length]
  have hin8 : inB 8 (ints (digs 8 (8 * n) v)).reverse := fun x hx => inB_ints (digs_ok 8 (8 * n) v) x (List.mem_reverse.1 hx)
  have hbe : be (ints (digs 8 (8 * n) v)).reverse = v := by
    unfold be
    rw [show nats (ints (digs 8 (8 * n) v)).reverse = (digs 8 (8 * n) v).reverse by rw [show nats (ints (digs 8 (8 * n) v)).reverse = (nats (ints (digs 8 (8 * n) v))).reverse by simp [nats], nats_ints], List.reverse_reverse, val_digs_lt]
    rwa [show 8 * (8 * n) = 64 * n by omega]
  have hof : nat_Of.f (ints (digs 8 (8 * n) v)).reverse (l0.length : Int) = some (l0, 0) := by
    unfold nat_Of.f
    rw [if_pos (c := inB 8 (ints (digs 8 (8 * n) v)).reverse ∧ (ints (digs 8 (8 * n) v)).reverse.length ≤ 140737488351232) ⟨hin8, by rw [hlen8]; omega⟩, if_neg (by omega), if_neg (by omega), hbe, Int.toNat_natCast, ← hn, if_pos hlt]
    congr 2
    have h1 := digs_val (ok_nats hb)
    rw [nats_length, ← hn, ← hv] at h1
    rw [h1, ints_nats hb]
  rw [hby]
  simp only [Option.bind_some]
  rw [hof]
  simp only [Option.bind_some]
  rw [parse_back v hnd]
  simp only [Option.bind_some, if_true]
  rw [same_self l0 (by omega) k (by omega)]
  simp only [Option.bind_some, if_true]
  have hin : inB 64 (ints (digs 64 ((nd v + 15) / 16) v)) := inB_ints (digs_ok _ _ _)
  have hll : (ints (digs 64 ((nd v + 15) / 16) v)).length = (nd v + 15) / 16 := by rw [ints_length, digs_length]
  have hvv : val 64 (nats (ints (digs 64 ((nd v + 15) / 16) v))) = v := by
    rw [nats_ints, val_digs_lt]
    have := lt_nd v
    rw [p16] at this
    exact Nat.lt_of_lt_of_le this (Nat.pow_le_pow_right (by decide) (by omega))
  rw [compare_spec hb hin (by omega) (by rw [hll]; omega) k (by rw [hll]; omega), hvv, ← hv]
  simp [sgn]
end Go.Proofs.Ytflchcdmgceecaa.Pure
