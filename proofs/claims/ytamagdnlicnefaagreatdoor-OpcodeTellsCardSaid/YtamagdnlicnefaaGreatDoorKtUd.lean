/- Opcode: the document's side, plain: a text's words; the number that a text is. -/
import Derived.Test.YtamagdnlicnefaaGreatDoorKtPRefd
import Derived.Test.YtamagdnlicnefaaGreatDoorKtUc
namespace Go.Proofs.YtamagdnlicnefaaGreatDoor
open Go.RowKit Go.Shelf Go.Proofs.YtamagdnlicnefaaGreatDoorW.PrintWords Go.Proofs.YtamagdnlicnefaaGreatDoorW.PrintLast Go.Proofs.YtamagdnlicnefaaGreatDoorW.PrintMore
open Go.Proofs.YtamagdnlicnefaaGreatDoor.PRef

theorem bt_nat (s : ByteArray) (i : Nat) (h : i < s.data.toList.length) : bt s (i : Int) = ((s.data.toList[i]).toNat : Int) := by
  rw [← bt_at s i (by simpa using h)]
  rfl
theorem cut_data (s : ByteArray) (i j : Nat) : (s.extract i j).data.toList = (s.data.toList.drop i).take (j - i) := by
  rw [Lib.extract_data]
theorem wrapS (i : Nat) (h : i ≤ 2000) : wrap64 ((i : Int) + 1) = ((i + 1 : Nat) : Int) := by unfold wrap64; omega
theorem words_l (s : ByteArray) (hs : s.size ≤ 1000) : ∀ (n i fr : Nat) (acc : List ByteArray), i + n = s.size → fr ≤ i → acc.length ≤ i → (∀ j (hj : j < s.data.toList.length), fr ≤ j → j < i → s.data.toList[j] ≠ 32) → ∀ f, n + 1 < f →
    ∃ P : List ByteArray, backstayref04_words.l0 f s acc fr i = some (acc ++ P) ∧ P.map (·.data.toList) = Lib.split (s.data.toList.drop fr) [32] := by
  have hlen : s.data.toList.length = s.size := Array.length_toList
  intro n
  induction n with
  | zero =>
    intro i fr acc hi hfi hacc hno f hf
    obtain ⟨f, rfl⟩ : ∃ g, f = g + 2 := ⟨f - 2, by omega⟩
    unfold backstayref04_words.l0
    rw [if_pos (by omega), if_pos (by omega), if_pos (by omega), if_pos (by omega), if_pos (by omega), wrapS i (by omega)]
    unfold backstayref04_words.l0
    rw [if_neg (by omega)]
    refine ⟨[s.extract (fr : Int).toNat (i : Int).toNat], rfl, ?_⟩
    rw [split_not 32]
    · rw [List.map_cons, List.map_nil, Int.toNat_natCast, Int.toNat_natCast, cut_data, List.take_of_length_le (by rw [List.length_drop]; omega)]
    · intro x hx
      obtain ⟨j, hj, rfl⟩ := List.getElem_of_mem hx
      rw [List.getElem_drop]
      rw [List.length_drop] at hj
      exact hno (fr + j) (by omega) (by omega) (by omega)
  | succ n ih =>
    intro i fr acc hi hfi hacc hno f hf
    obtain ⟨f, rfl⟩ : ∃ g, f = g + 1 := ⟨f - 1, by omega⟩
    have hlt : i < s.data.toList.length := by omega
    have hb := bt_nat s i hlt
    unfold backstayref04_words.l0
    rw [if_pos (by omega), if_neg (by omega), if_pos (by omega), if_pos (by omega)]
    by_cases h32 : s.data.toList[i] = 32
    · rw [if_pos (by rw [hb, h32]; rfl), if_pos (by omega), if_pos (by omega), if_pos (by omega), wrapS i (by omega)]
      obtain ⟨P, h1, h2⟩ := ih (i + 1) (i + 1) (acc ++ [s.extract (fr : Int).toNat (i : Int).toNat]) (by omega) (by omega) (by rw [List.length_append, List.length_singleton]; omega) (fun j hj h3 h4 => by omega) f (by omega)
      refine ⟨s.extract (fr : Int).toNat (i : Int).toNat :: P, by rw [h1, List.append_assoc]; rfl, ?_⟩
      rw [List.map_cons, h2, Int.toNat_natCast, Int.toNat_natCast, cut_data]
      have e : s.data.toList.drop fr = (s.data.toList.drop fr).take (i - fr) ++ 32 :: s.data.toList.drop (i + 1) := by
        have e1 : (s.data.toList.drop fr).drop (i - fr) = 32 :: s.data.toList.drop (i + 1) := by
          rw [List.drop_drop, show fr + (i - fr) = i by omega, List.drop_eq_getElem_cons hlt, h32]
        rw [← e1, List.take_append_drop]
      conv => rhs; rw [e]
      rw [split_at 32]
      intro x hx
      obtain ⟨j, hj, rfl⟩ := List.getElem_of_mem hx
      rw [List.getElem_take, List.getElem_drop]
      rw [List.length_take, List.length_drop] at hj
      exact hno (fr + j) (by omega) (by omega) (by omega)
    · rw [if_neg (by rw [hb]; intro e; apply h32; apply UInt8.toNat_inj.1; show _ = 32; omega), wrapS i (by omega)]
      refine ih (i + 1) fr acc (by omega) (by omega) (by omega) (fun j hj h3 h4 => ?_) f (by omega)
      rcases Nat.lt_or_ge j i with h | h
      · exact hno j hj h3 h
      · obtain rfl : j = i := by omega
        exact h32
theorem words_f (s : ByteArray) (hs : s.size ≤ 1000) : ∃ P : List ByteArray, backstayref04_words.f 1010 s = some P ∧ P.map (·.data.toList) = Lib.split s.data.toList [32] := by
  obtain ⟨P, h1, h2⟩ := words_l s hs s.size 0 0 [] (by omega) (by omega) (by simp) (fun j hj h3 h4 => by omega) 1010 (by omega)
  rw [List.drop_zero] at h2
  exact ⟨P, h1, h2⟩
end Go.Proofs.YtamagdnlicnefaaGreatDoor
