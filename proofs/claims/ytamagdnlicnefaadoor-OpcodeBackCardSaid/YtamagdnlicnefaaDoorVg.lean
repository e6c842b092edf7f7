/- What the laws want of the Reel and of the document's Width: rows that came in, ref Width, what is read of bytes. -/
import Derived.Test.YtamagdnlicnefaaDoorVf
import Derived.LoopTactic
import Derived.OpenShut
namespace Go.Proofs.YtamagdnlicnefaaDoor
open Go.RowKit Go.Shelf Go.Proofs.YtamagdnlicnefaaDoorW.PrintWords Go.Proofs.YtamagdnlicnefaaDoorW.PrintLast Go.Proofs.YtamagdnlicnefaaDoorW.PrintMore

/-- A row of bytes of the call's own is one that may be read. -/
theorem row_C {w : World} {base : Nat} {A : Option Addr} {n c : Nat} {bs : List Int} (h : w.ownsRow base 5 1 (.slice A n c) bs.length (nums .u8 bs)) : n = bs.length ∧ n ≤ c ∧ (Kd.int .u8).C w A bs.length bs :=
  Kd.R_reads' (Kd.R_of_own (ok := fun _ => True) h (fun _ _ => trivial))

/-- Bytes that came in, as the shells tell them. -/
theorem came_C {w : World} {A : Option Addr} {len cap : Nat} {zs : List Int}
    (h : (A = none ∧ len = 0 ∧ cap = 0 ∧ zs = []) ∨ ∃ x, A = some x ∧ len ≤ cap ∧ cap ≤ maxLen ∧ zs.length = cap ∧ (∀ i, i < zs.length → w.cell? (x.add i) = some (.int .u8 (zs.getD i 0))) ∧ ∀ n ∈ zs, (Lit.int .u8 n).wf = true) :
    ∃ bs : List Int, len = bs.length ∧ bs.length ≤ cap ∧ cap ≤ 9223372036854775807 ∧ (Kd.int .u8).C w A bs.length bs ∧ ∀ b ∈ bs, 0 ≤ b ∧ b ≤ 255 := by
  rcases h with ⟨rfl, rfl, rfl, rfl⟩ | ⟨x, rfl, hl, hm, hz, hc, hw⟩
  · exact ⟨[], rfl, Nat.le_refl _, by omega, Kd.C_of_reads (enc := Value.int .u8) (d := (0 : Int)) (h1 := fun _ => rfl) ⟨rfl, by simp, fun h => absurd h (by simp)⟩, by simp⟩
  · have hm' : cap ≤ 9223372036854775807 := by unfold maxLen at hm; omega
    have hlen : (zs.take len).length = len := by rw [List.length_take]; omega
    refine ⟨zs.take len, by rw [hlen], by omega, hm', Kd.C_of_reads (enc := Value.int .u8) (d := (0 : Int)) (h1 := fun _ => rfl) ⟨rfl, by omega, fun _ => ⟨x, rfl, fun j hj => ?_⟩⟩, fun b hb => Go.bounds_u8 (hw b (List.mem_of_mem_take hb))⟩
    rw [hlen] at hj
    rw [hc j (by omega)]
    simp [List.getD_eq_getElem?_getD, hj]

theorem wid_of (n k : Nat) (h1 : 1 ≤ k) (h8 : k ≤ 8) (hlo : k = 1 ∨ 128 ^ (k - 1) ≤ n) (hhi : n < 128 ^ k) : VP.wid n = k := by
  have : k = 1 ∨ k = 2 ∨ k = 3 ∨ k = 4 ∨ k = 5 ∨ k = 6 ∨ k = 7 ∨ k = 8 := by omega
  rcases this with rfl | rfl | rfl | rfl | rfl | rfl | rfl | rfl <;>
  (simp only [Nat.reduceSub, Nat.reducePow, Nat.reduceEqDiff, false_or, true_or] at hlo hhi; unfold VP.wid; repeat' split) <;> omega

theorem wid_9 (n : Nat) (h : 72057594037927936 ≤ n) : VP.wid n = 9 := by
  unfold VP.wid
  repeat' split
  all_goals omega

theorem pow128 (k : Nat) (h8 : k ≤ 8) : 128 ^ k ≤ 72057594037927936 := by
  have : (128 : Nat) ^ k ≤ 128 ^ 8 := Nat.pow_le_pow_right (by omega) h8
  simpa using this

theorem RefWidth_any (n : Nat) (hn : n < 18446744073709551616) (w : World) :
    Calls Tryd.prog 70 #[.int .u64 n] w fun e w' => e = .returned (.int .i64 (VP.wid n)) ∧ w = w' := by
  go_enter Tryd.func70, Tryd.ntmps70
  go_wp2
  go_loop [3, 4] (fun c l => ∃ k T : Nat, 1 ≤ k ∧ k ≤ 8 ∧ T = 128 ^ k ∧ T ≤ 72057594037927936 ∧ c = .int .i64 k ∧ l = .int .u64 T ∧ (k = 1 ∨ 128 ^ (k - 1) ≤ n)) (fun c _ => 8 - (intOf c).toNat)
  case atStart => exact ⟨1, 128, by omega, by omega, rfl, by omega, rfl, rfl, .inl rfl⟩
  case round =>
    obtain ⟨k, T, h1, h8, hT, hT2, rfl, rfl, hlo⟩ := hrel
    have HT := Lib.hid hT
    have HLo := Lib.hid hlo
    clear hT hlo
    by_cases hk : k < 8
    · have hk' : ((k : Int) < 8) := by omega
      by_cases hnT : T ≤ n
      · have hnT' : ((T : Int) ≤ (n : Int)) := by omega
        go_wp2
        go_round
        case rel =>
          have e : 128 ^ (k + 1) = T * 128 := by rw [HT.out, Nat.pow_succ]
          have := pow128 (k + 1) (by omega)
          refine ⟨k + 1, T * 128, by omega, by omega, e.symm, by omega, ?_, ?_, .inr (by rw [Nat.add_sub_cancel, ← HT.out]; exact hnT)⟩
          · go_num
          · go_num
        case measure => simp [intOf]; omega
      · have hnT' : ¬ ((T : Int) ≤ (n : Int)) := by omega
        go_wp2
        all_goals first | (exfalso; omega) | (go_ret; exact ⟨by rw [wid_of n k h1 h8 HLo.out (by rw [← HT.out]; omega)]; rfl, rfl⟩)
    · have hk' : ¬ ((k : Int) < 8) := by omega
      obtain rfl : k = 8 := by omega
      by_cases hnT : T ≤ n
      · have hnT' : ((T : Int) ≤ (n : Int)) := by omega
        go_wp2
        go_ret
        have := HT.out
        exact ⟨by rw [wid_9 n (by omega)]; rfl, rfl⟩
      · have hnT' : ¬ ((T : Int) ≤ (n : Int)) := by omega
        go_wp2
        all_goals first | (exfalso; omega) | (go_ret; exact ⟨by rw [wid_of n 8 h1 h8 HLo.out (by rw [← HT.out]; omega)]; rfl, rfl⟩)

/-- What look tells when it tells no number. -/
theorem look_code (l : List Nat) : (look l).2.2 = 0 ∨ (look l).2.2 = 10 ∨ (look l).2.2 = 11 := by
  cases l with
  | nil => exact .inr (.inl rfl)
  | cons b t =>
    rw [look_cons]
    split
    · exact .inr (.inl rfl)
    · split
      · exact .inl rfl
      · exact .inr (.inr rfl)

/-- What was read of bytes has just these bytes. -/
theorem look_bytes (bs : List Int) (p : Nat) (hb : ∀ b ∈ bs, 0 ≤ b ∧ b ≤ 255) (h : (look (rest bs p)).2.2 = 0) :
    (bs.take (p + (look (rest bs p)).2.1)).drop p = encI (look (rest bs p)).1 ∧ 1 ≤ (look (rest bs p)).2.1 := by
  obtain ⟨h1, h2, h3, h4⟩ := look_ok _ (rest_lt bs hb p) h
  have hw := VP.wid_pos (look (rest bs p)).1
  refine ⟨?_, by omega⟩
  rw [encI, ← h4, List.drop_take, Nat.add_sub_cancel_left, rest, ← List.map_take, List.map_map]
  symm
  refine Eq.trans (List.map_congr_left (g := id) fun b hb' => ?_) (List.map_id _)
  have := hb b (List.mem_of_mem_drop (List.mem_of_mem_take hb'))
  simp only [Function.comp, id, Int.ofNat_eq_natCast]
  omega

/-- b[lo:hi] of a row that may be read. -/
theorem cut_read (A : Option Addr) (c lo hi : Nat) (xs : List Int) (h1 : lo ≤ hi) (h2 : hi ≤ xs.length) (hc : xs.length ≤ c) :
    ∃ A', (∀ W, (Instr.slice 30 (.slice A xs.length c) (some (.int .i64 lo)) (some (.int .i64 hi)) none).run Tryd.prog W = .ok (.slice A' (hi - lo) (c - lo)) W) ∧
      ∀ W, (Kd.int .u8).C W A xs.length xs → (Kd.int .u8).C W A' (hi - lo) ((xs.take hi).drop lo) := by
  obtain ⟨i0, hi0, hz0, hz1, hz2⟩ := info_parts info5
  refine ⟨if c = lo then A else A.map (·.add (lo * 1)), fun W => ?_, fun W hC => ?_⟩
  · have h := cut_mid 30 5 .i64 .i64 Tryd.underlying30 hi0 1 hz1 A xs.length c lo hi (by omega) (by omega) (by omega) hc W
    simpa using h
  · have h := Kd.C_mid hC h1 h2 hc
    have e : ((xs.take hi).drop lo).length = hi - lo := by rw [List.length_drop, List.length_take]; omega
    rw [e] at h
    exact h

/-- string(b) of a row that may be read. -/
theorem string_read {W : World} {A : Option Addr} {n c : Nat} {xs : List Int} (h : (Kd.int .u8).C W A n xs) : (convert 30 9 (.slice A n c)).run Tryd.prog W = .ok (.string (strOfNums xs)) W :=
  Kd.C_string Tryd.underlying30 Tryd.underlying5 Tryd.underlying9 h
end Go.Proofs.YtamagdnlicnefaaDoor
