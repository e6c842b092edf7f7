/- Opcode: Of. -/
import Derived.Test.YtamagdnlicnefaaGreatDoorKnQd
namespace Go.Proofs.YtamagdnlicnefaaGreatDoor
open Go.RowKit Go.Shelf Go.Proofs.YtamagdnlicnefaaGreatDoorW.PrintWords Go.Proofs.YtamagdnlicnefaaGreatDoorW.PrintLast Go.Proofs.YtamagdnlicnefaaGreatDoorW.PrintMore

theorem same_str2 (x y : ByteArray) : (x.toList == y.toList) = true ↔ x = y := by
  rw [beq_iff_eq, Lib.toList_data, Lib.toList_data]
  constructor
  · intro e
    obtain ⟨⟨x⟩⟩ := x
    obtain ⟨⟨y⟩⟩ := y
    exact congrArg (fun l => (⟨⟨l⟩⟩ : ByteArray)) e
  · rintro rfl; rfl
def OfIs (s : ByteArray) (r c : Int) : Prop := (∃ k : Nat, k < 30 ∧ r = k ∧ c = 0 ∧ s = ⟨((rowOf k).1).toArray⟩) ∨ (r = 0 ∧ c = 40 ∧ ∀ k : Nat, k < 30 → s ≠ ⟨((rowOf k).1).toArray⟩)
set_option maxRecDepth 100000 in
set_option maxHeartbeats 4000000 in
theorem Of40_any (s : ByteArray) (w : World) : Calls Tryz.prog 14 #[.string s] w fun e w' => ∃ r c : Int, e = .returned (.tuple #[.int .i64 r, .int .i64 c]) ∧ OfIs s r c ∧ Below w.heap.size w w' := by
  have HI : Hid (∀ k : Nat, k < 30 → ∀ w, (Instr.index 59 (.agg rowsC) (.int .i64 k)).run Tryz.prog w = .ok (rowV k) w) := Lib.hid (fun k hk => index93 k hk)
  have HO : Hid (∀ r c, OfIs s r c → OfIs s r c) := Lib.hid (fun _ _ h => h)
  generalize hR : Value.agg rowsC = R at *
  have HR := Lib.hid hR
  clear hR
  go_enter Tryz.func14, Tryz.ntmps14
  go_wp2_with (go_at_call 32; (with_reducible refine (rows41_any _).mono ?_); rintro e w1 ⟨rfl, hb1⟩; rw [HR.out]; have HB1 := Lib.hid hb1; clear hb1)
  go_loopw [4, 5, 7] (fun v4 v5 i wr => ∃ j : Nat, i = .int .i64 j ∧ j ≤ 30 ∧ Hid (∀ k : Nat, k < j → s ≠ ⟨((rowOf k).1).toArray⟩) ∧ Hid (Below w.heap.size w wr)) (fun _ _ i _ => 30 - (intOf i).toNat)
  case atStart => exact ⟨0, rfl, by omega, Lib.hid (fun k hk => by omega), HB1⟩
  case round =>
    obtain ⟨j, rfl, hj, HN, HB⟩ := hrel
    by_cases hlt : j < 30
    · have hlt2 : (j : Int) < 30 := by omega
      obtain ⟨r, hr⟩ : ∃ r, rowOf j = r := ⟨_, rfl⟩
      have hv : rowV j = .agg #[.string ⟨r.1.toArray⟩, .int .i64 r.2.1, .int .i64 r.2.2.1, .string ⟨r.2.2.2.1.toArray⟩, .string ⟨r.2.2.2.2.1.toArray⟩, .bool r.2.2.2.2.2] := by rw [← hr]; rfl
      have hx : ∀ w, (Instr.index 59 R (.int .i64 j)).run Tryz.prog w = .ok (.agg #[.string ⟨r.1.toArray⟩, .int .i64 r.2.1, .int .i64 r.2.2.1, .string ⟨r.2.2.2.1.toArray⟩, .string ⟨r.2.2.2.2.1.toArray⟩, .bool r.2.2.2.2.2]) w := fun w => by rw [HI.out j hlt w, hv]
      have HE : Hid (∀ k : Nat, k < 30 → True) := Lib.hid (fun _ _ => trivial)
      have HS := Lib.hid hr
      clear hv hr hlt HE
      by_cases he : (⟨r.1.toArray⟩ : ByteArray) = s
      · have hq : ((⟨r.1.toArray⟩ : ByteArray).toList == s.toList) = true := (same_str2 _ _).2 he
        have HF : Hid (OfIs s j 0) := Lib.hid (.inl ⟨j, by omega, rfl, rfl, by rw [HS.out, he]⟩)
        generalize (⟨r.1.toArray⟩ : ByteArray) = nm at *
        clear he
        go_wp2
        go_ret2
        exact ⟨_, _, rfl, HF.out, below_alloc HB.out _⟩
      · have hq : ((⟨r.1.toArray⟩ : ByteArray).toList == s.toList) = false := by rw [Bool.eq_false_iff, Ne, same_str2]; exact he
        have HN2 : Hid (∀ k : Nat, k < j + 1 → s ≠ ⟨((rowOf k).1).toArray⟩) := Lib.hid (fun k hk e => by
          rcases Nat.lt_or_ge k j with h | h
          · exact HN.out k h e
          · obtain rfl : k = j := by omega
            rw [HS.out] at e
            exact he e.symm)
        generalize (⟨r.1.toArray⟩ : ByteArray) = nm at *
        clear he
        go_wp2
        refine ⟨⟨j + 1, by simp, by omega, HN2, Lib.hid (below_alloc HB.out _)⟩, ?_⟩
        simp [intOf]
        omega
    · obtain rfl : j = 30 := by omega
      clear hlt
      have HF : Hid (OfIs s 0 40) := Lib.hid (.inr ⟨rfl, rfl, fun k hk => HN.out k hk⟩)
      go_wp2
      go_ret2
      exact ⟨_, _, rfl, HF.out, HB.out⟩
end Go.Proofs.YtamagdnlicnefaaGreatDoor
