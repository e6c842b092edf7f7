/- Opcode: Encode. -/
import Derived.Test.YtamagdnlicnefaaGreatDoorKtOe
import Derived.Test.YtamagdnlicnefaaGreatDoorKtRg
namespace Go.Proofs.YtamagdnlicnefaaGreatDoor
open Go.RowKit Go.Shelf Go.Proofs.YtamagdnlicnefaaGreatDoorW.PrintWords Go.Proofs.YtamagdnlicnefaaGreatDoorW.PrintLast Go.Proofs.YtamagdnlicnefaaGreatDoorW.PrintMore
attribute [local go_sem] Oper.semAt_some wide_fn2 wide_depth2

def valAt (a b : Int) (o : Nat) : Int := if o = 1 then a else b
theorem TapeIs.fr {S : Nat → Prop} {X Y : World} {g base : Nat} {v : Value} {xs : List Int} (h : TapeIs X g base v xs) (hf : Fr S X Y) (hg : ¬ S g) (hv : ∀ r, v.ownBlock = some r → ¬ S r) : TapeIs Y g base v xs := by
  refine ⟨hf.at h.blk hg, h.own.1, ?_⟩
  rcases h.own.2 with h' | ⟨r, cap, cur, hu, hb, hr, rest⟩
  · exact .inl h'
  · exact .inr ⟨r, cap, cur, hu, hb, hf.at hr (hv r (by rw [hu]; rfl)), rest⟩
theorem TapeIs.lt {X : World} {g base : Nat} {v : Value} {xs : List Int} (h : TapeIs X g base v xs) (r : Nat) (hr : v.ownBlock = some r) : r < X.heap.size := by
  rcases h.own.2 with ⟨rfl, _⟩ | ⟨r', cap, cur, rfl, hb, hr', rest⟩
  · cases hr
  · obtain rfl : r' = r := by simpa [Value.ownBlock] using hr
    exact blk_lt hr'
theorem hi_le (k : Nat) (hk : k ≤ 10) : hi k ≤ 9223372036854775807 := by
  have : ∀ k : Fin 11, hi k.val ≤ 9223372036854775807 := by decide +kernel
  exact this ⟨k, by omega⟩
theorem lo_ge (k : Nat) : -9223372036854775808 ≤ lo k := by unfold lo; split <;> (try split) <;> omega
theorem opsL_mem {k1 k2 : Nat} {x : Nat × Nat} (h : x ∈ opsL k1 k2) : (x = (k1, 1) ∧ k1 ≠ 0) ∨ (x = (k2, 2) ∧ k2 ≠ 0) := by
  unfold opsL at h
  rcases List.mem_append.1 h with h | h
  · split at h
    · cases h
    · exact .inl ⟨List.mem_singleton.1 h, by assumption⟩
  · split at h
    · cases h
    · exact .inr ⟨List.mem_singleton.1 h, by assumption⟩
end Go.Proofs.YtamagdnlicnefaaGreatDoor
