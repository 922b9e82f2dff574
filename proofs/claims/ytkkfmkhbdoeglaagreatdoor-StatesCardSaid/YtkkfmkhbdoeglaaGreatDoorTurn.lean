/- A frame comes apart; a frame of which one byte is another does not. No condition. -/
import Derived.Test.YtkkfmkhbdoeglaaGreatDoorFrame
namespace Go.Proofs.YtkkfmkhbdoeglaaGreatDoor

theorem be4_be32 (n : Nat) (hn : n < 4294967296) : ∃ a b c d, be4 n = [a, b, c, d] ∧ be32 a b c d = n := by
  refine ⟨_, _, _, _, rfl, ?_⟩
  exact ((be4_eq n hn _ _ _ _).1 rfl).symm
theorem unsealB_seal (k : UInt8) (l : List UInt8) : unsealB (sealB k l) = .inl (k, l) := by
  obtain ⟨a, b, c, d, h1, h2⟩ := be4_be32 (crc (k :: l)) (crc_lt _)
  unfold sealB
  rw [h1, unsealB_long, if_pos h2.symm]
theorem unsealB_turned (k : UInt8) (l : List UInt8) (i : Nat) (v : UInt8) (hi : i < (sealB k l).length) (hv : v ≠ (sealB k l)[i]) :
    ∃ n, unsealB ((sealB k l).set i v) = .inr (3, n) := by
  obtain ⟨a, b, c, d, h1, h2⟩ := be4_be32 (crc (k :: l)) (crc_lt _)
  have hs : sealB k l = (k :: l) ++ [a, b, c, d] := by unfold sealB; rw [h1]
  simp only [hs] at hi hv ⊢
  by_cases hlt : i < (k :: l).length
  · rw [List.set_append_left _ _ hlt]
    rw [List.getElem_append_left hlt] at hv
    obtain ⟨k', l', hkl⟩ : ∃ k' l', (k :: l).set i v = k' :: l' := by
      cases i with
      | zero => exact ⟨_, _, rfl⟩
      | succ i => exact ⟨_, _, rfl⟩
    rw [hkl, unsealB_long, if_neg]
    · exact ⟨_, rfl⟩
    · rw [h2, ← hkl]
      intro e
      have hsp : (k :: l) = (k :: l).take i ++ (k :: l)[i] :: (k :: l).drop (i + 1) := by
        rw [← List.drop_eq_getElem_cons hlt, List.take_append_drop]
      have hsp2 : (k :: l).set i v = (k :: l).take i ++ v :: (k :: l).drop (i + 1) := List.set_eq_take_append_cons_drop .. |>.trans (by rw [if_pos hlt])
      rw [hsp2] at e
      have e2 := e.trans (congrArg crc hsp)
      exact hv (crc_byte _ _ _ _ e2)
  · have hge : (k :: l).length ≤ i := by omega
    rw [List.set_append_right _ _ hge]
    rw [List.getElem_append_right hge] at hv
    have hj : i - (k :: l).length < 4 := by rw [List.length_append] at hi; simp only [List.length_cons, List.length_nil] at hi ⊢; omega
    obtain ⟨j, hj2⟩ : ∃ j, j = i - (k :: l).length := ⟨_, rfl⟩
    have hne : ([a, b, c, d].set j v) ≠ [a, b, c, d] := by
      subst hj2
      intro e
      apply hv
      have h3 : ([a, b, c, d].set (i - (k :: l).length) v)[i - (k :: l).length]? = some v := by rw [List.getElem?_set_self (by simpa using hj)]
      rw [e] at h3
      obtain ⟨_, h4⟩ := List.getElem?_eq_some_iff.1 h3
      exact h4.symm
    obtain ⟨a', b', c', d', hl⟩ : ∃ a' b' c' d', [a, b, c, d].set j v = [a', b', c', d'] := by
      rcases j with _ | _ | _ | _ | j
      · exact ⟨_, _, _, _, rfl⟩
      · exact ⟨_, _, _, _, rfl⟩
      · exact ⟨_, _, _, _, rfl⟩
      · exact ⟨_, _, _, _, rfl⟩
      · omega
    rw [← hj2, hl, unsealB_long, if_neg]
    · exact ⟨_, rfl⟩
    · intro e
      apply hne
      rw [hl, ← h1]
      exact ((be4_eq _ (crc_lt _) a' b' c' d').2 e).symm
end Go.Proofs.YtkkfmkhbdoeglaaGreatDoor
