/- The plain law of OaepRooms. -/
import Derived.Test.YtincnnmojgphmaaPOaepRoomsx1
set_option linter.unusedVariables false
namespace Go.Proofs.Ytincnnmojgphmaa.Pure
open Go.RowKit Go.Proofs.Ytincnnmojgphmaa.POaepRooms Go.Proofs.YtincnnmojgphmaaW.PrintWords Go.Proofs.YtincnnmojgphmaaW.PrintLast Go.Proofs.Ytincnnmojgphmaa.H Go.Proofs.Ytincnnmojgphmaa.PO

theorem rroom_val (h k : Int) : sconceref23_Room.f 3 h k = some (roomR h k) := by
  have h2 := hlen_le h
  unfold sconceref23_Room.f roomR
  by_cases hh : h = 1 ∨ h = 2 ∨ h = 3
  · have h1 := hlen_pos h
    rw [rsize_at h hh, Option.bind_some, if_neg (by omega), if_pos hh]
    have e1 : wrap64 (2 * (hlen h : Int)) = 2 * (hlen h : Int) := by unfold wrap64; omega
    have e2 : wrap64 (2 * (hlen h : Int) + 2) = 2 * (hlen h : Int) + 2 := by unfold wrap64; omega
    have hj : ∀ (x1 x6 : Int) (x12 : Bool), sconceref23_Room.j0 3 x1 x6 x12 = if x12 = true then (some (0, 1)) else (if x1 < (wrap64 ((wrap64 (2 * x6)) + 2)) then (some (0, 232)) else (some (wrap64 ((wrap64 (x1 - (wrap64 (2 * x6)))) - 2), 0))) := fun _ _ _ => rfl
    rw [hj, hj, e1, e2]
    by_cases k0 : k < 0
    · rw [if_pos k0, if_pos rfl, if_pos (.inl k0)]
    · rw [if_neg k0]
      by_cases k1 : 1024 < k
      · rw [if_pos (decide_eq_true k1), if_pos (.inr k1)]
      · have e3 : wrap64 (k - 2 * (hlen h : Int)) = k - 2 * (hlen h : Int) := by unfold wrap64; omega
        have e4 : wrap64 (k - 2 * (hlen h : Int) - 2) = k - 2 * (hlen h : Int) - 2 := by unfold wrap64; omega
        have kk : ¬ (k < 0 ∨ 1024 < k) := by omega
        have kd : ¬ (decide (k > 1024) = true) := by simpa using k1
        rw [e3, e4, if_neg kd, if_neg kk]
        by_cases k2 : k < 2 * (hlen h : Int) + 2
        · rw [if_pos k2, if_pos k2]
        · rw [if_neg k2, if_neg k2]
  · rw [rsize_none h hh, Option.bind_some, if_pos rfl, if_neg hh]
theorem OaepRooms : sconcelaw24_OaepRooms.Pure := by
  intro h k _ _
  refine ⟨3, ?_⟩
  unfold sconcelaw24_OaepRooms.f sconcelaw24_awake.f
  rw [Option.bind_some, if_pos rfl, room_val, Option.bind_some, rroom_val, Option.bind_some, if_pos rfl, beq_self_eq_true]
end Go.Proofs.Ytincnnmojgphmaa.Pure
