/- Contracts of Width, ones, spelt. -/
import Derived.Test.YtamagdnlicnefaaDoorVp
import Derived.Test.YtamagdnlicnefaaDoorShelf
import Derived.RangeFuncNested
import Derived.RangeFuncBound
import Derived.RangeFuncCalls
import Derived.RangeFuncLeaves
import Derived.RangeFuncBox
import Derived.Shelf.Abstract
import Derived.Shelf.RegionOpen
import Derived.WalkKit
import Derived.OwnWalkIn
import Derived.TacticsInMore
import Derived.LoopNIn
import Derived.LoopIn
import Derived.Maps.AppendAt
import Derived.WalkLawsBesides
import Derived.WalkSpells
import Derived.Lib.Hide
import Derived.Outline
import Derived.Lib.ItoaNum
import Derived.Test.YtamagdnlicnefaaDoorWMore
namespace Go.Proofs.YtamagdnlicnefaaDoor
open Go.RowKit Go.Shelf Go.Proofs.YtamagdnlicnefaaDoorW.PrintWords Go.Proofs.YtamagdnlicnefaaDoorW.PrintLast Go.Proofs.YtamagdnlicnefaaDoorW.PrintMore
attribute [local go_sem] Oper.semAt_some
attribute [local go_sem] max2_int min2_int max_two min_two max_three min_three max_four min_four

theorem ret_int {k : IntKind} {a b : Int} (h : a = b) : Ending.returned (.int k a) = .returned (.int k b) := by rw [h]

theorem bitLen_wid (n : Nat) (hn : n < 18446744073709551616) :
    (VP.wid n : Int) = if (mx 1 ((Lib.bitLen n + 7 - 1) / 7 : Int)) < 9 then mx 1 ((Lib.bitLen n + 7 - 1) / 7 : Int) else 9 := by
  by_cases h0 : n = 0
  · subst h0; decide +kernel
  have hb := Lib.bitLenAux_bounds 64 n (by simpa using hn) h0
  have hL : Lib.bitLen n = Lib.bitLenAux 64 n := rfl
  rw [← hL] at hb
  obtain ⟨h1, h2, h3⟩ := hb
  have hle : Lib.bitLen n ≤ 64 := Lib.bitLen_le n 64 (by omega) (by simpa using hn)
  generalize Lib.bitLen n = L at *
  have key : ∀ L : Fin 65, 1 ≤ L.val → ∀ w : Fin 10, (w.val : Int) = (if (mx 1 ((L.val + 7 - 1) / 7 : Int)) < 9 then mx 1 ((L.val + 7 - 1) / 7 : Int) else 9) →
      (1 ≤ w.val ∧ (w.val ≤ 8 → 2 ^ L.val ≤ 2 ^ (7 * w.val)) ∧ (2 ≤ w.val → 2 ^ (7 * (w.val - 1)) ≤ 2 ^ (L.val - 1))) := by decide +kernel
  have hw : ∃ w : Fin 10, (w.val : Int) = (if (mx 1 ((L + 7 - 1) / 7 : Int)) < 9 then mx 1 ((L + 7 - 1) / 7 : Int) else 9) := by
    have : ∀ L : Fin 65, ∃ w : Fin 10, (w.val : Int) = (if (mx 1 ((L.val + 7 - 1) / 7 : Int)) < 9 then mx 1 ((L.val + 7 - 1) / 7 : Int) else 9) := by decide +kernel
    exact this ⟨L, by omega⟩
  obtain ⟨w, hw⟩ := hw
  rw [← hw]
  obtain ⟨k1, k2, k3⟩ := key ⟨L, by omega⟩ h1 w hw
  have e : VP.wid n = w.val := by
    have hlt := w.isLt
    rcases VP.wid_cases n hn with ⟨e, a⟩ | ⟨e, a, b⟩ | ⟨e, a, b⟩ | ⟨e, a, b⟩ | ⟨e, a, b⟩ | ⟨e, a, b⟩ | ⟨e, a, b⟩ | ⟨e, a, b⟩ | ⟨e, a⟩ <;> rw [e]
    all_goals
      have hc : w.val = 1 ∨ w.val = 2 ∨ w.val = 3 ∨ w.val = 4 ∨ w.val = 5 ∨ w.val = 6 ∨ w.val = 7 ∨ w.val = 8 ∨ w.val = 9 := by omega
      rcases hc with h | h | h | h | h | h | h | h | h <;> simp only [h] at k2 k3 ⊢ <;> simp at k2 k3 <;> omega
  rw [e]

theorem Width_any (n : Nat) (hn : n < 18446744073709551616) (w : World) :
    Calls Tryd.prog 67 #[.int .u64 n] w fun e w' => e = .returned (.int .i64 (VP.wid n)) ∧ w = w' := by
  have hle : Lib.bitLen n ≤ 64 := Lib.bitLen_le n 64 (by omega) (by simpa using hn)
  have hw := bitLen_wid n hn
  have HW := Lib.hid hw
  clear hw
  have hw9 := VP.wid_pos n
  go_enter Tryd.func67, Tryd.ntmps67
  go_wp2_with (go_at_call 82; refine (Tryd.bits_Len64 _ _ (by omega) (by omega)).mono ?_; rintro e w' ⟨rfl, rfl⟩)
  all_goals
    go_ret
    refine ⟨ret_int ?_, rfl⟩
    rw [HW.out]
    simp only [mx]
    repeat' split
  all_goals first | rfl | omega

theorem ones_num : ∀ k : Fin 9, (255 * 2 ^ (8 - k.val) % 256 : Int) = (VP.mark (k.val + 1) : Int) := by decide +kernel

theorem ones_any (k : Nat) (hk : k ≤ 8) (w : World) :
    Calls Tryd.prog 69 #[.int .i64 k] w fun e w' => e = .returned (.int .u8 (VP.mark (k + 1))) ∧ w = w' := by
  have hm := ones_num ⟨k, by omega⟩
  have HM := Lib.hid hm
  clear hm
  go_enter Tryd.func69, Tryd.ntmps69
  go_wp2
  go_ret
  exact ⟨ret_int HM.out, rfl⟩

theorem spelt_any (n : Nat) (hn : n < 18446744073709551616) (w : World) :
    Calls Tryd.prog 48 #[.int .u64 n] w fun e w' => e = .returned (.func (.func 68) #[] #[.pointer (some ⟨w.heap.size + 1, 0, none⟩), .pointer (some ⟨w.heap.size, 0, none⟩)]) ∧ w' = (w.alloc (.cells #[.int .u64 n] 72)).alloc (.cells #[.int .i64 (VP.wid n)] 3) := by
  go_enter Tryd.func48, Tryd.ntmps48
  go_wp2_with (go_at_call 67; refine (Width_any _ hn _).mono ?_; rintro e w' ⟨rfl, rfl⟩)
  go_ret
  exact ⟨rfl, rfl⟩

theorem wpIn_scope_straight {F : Fence} {n : Nat} {P : Program} {Q : Exit → Act → World → Prop} {a : Act} {w : World} {c : Code} (h : c.wpIn F n P (Exit.noGoto Q) a w) : (Code.scope c).wpIn F n P Q a w := by
  intro b k cs hro hb hr
  have h0 : (lone (b.atR a (.code (.scope c) :: k)) cs w).fenced P F := fenced_calm hb hr rfl
  have h1 : step P (lone (b.atR a (.code (.scope c) :: k)) cs w) = .next (lone (b.atR a (.code c :: .inScope c :: k)) cs w) :=
    step_lone_go (by simp [stepG, stepG.exec, Frame.atR])
  have h2 : ∀ a w, step P (lone (b.atR a (.inScope c :: k)) cs w) = .next (lone (b.atR a k) cs w) := fun _ _ =>
    step_lone_go (by simp [stepG, stepG.exec, Frame.atR])
  obtain ⟨e, a₁, w₁, hq, harr⟩ := h b (.inScope c :: k) cs hro hb hr
  have hx : ∀ id, exitTo id (.inScope c :: k) = exitTo id k := fun id => by simp [exitTo]
  cases e with
  | normal => exact ⟨.normal, a₁, w₁, hq, .head h0 h1 (StepsIn.trans harr (.one (fenced_calm hb hr rfl) (h2 _ _)))⟩
  | exit id => exact ⟨.exit id, a₁, w₁, hq, fun k' hk => .head h0 h1 (harr.1 k' (by rw [hx]; exact hk)), fun hr' hk => let ⟨k₁, h3, h4⟩ := harr.2 hr' (by rw [hx]; exact hk); ⟨k₁, h3, .head h0 h1 h4⟩⟩
  | goto l => exact hq.elim
  | ret => exact ⟨_, a₁, w₁, hq, .of_steps (.one h0 h1) harr⟩
  | panic ch => exact ⟨_, a₁, w₁, hq, .of_steps (.one h0 h1) harr⟩
  | outgrown => exact ⟨_, a₁, w₁, hq, .of_steps (.one h0 h1) harr⟩

/-- A number's bytes, as whole numbers. -/
def encI (n : Nat) : List Int := (VP.enc n).map Int.ofNat

/-- What the rounds must keep: two blocks. -/
def KpB (a b : Nat) (W W' : World) : Prop := W'.heap[a]? = W.heap[a]? ∧ W'.heap[b]? = W.heap[b]?

theorem or_num : ∀ k : Fin 9, ∀ q : Fin 256, q.val < 2 ^ (7 - k.val) → Go.bits .or .u8 (q.val : Int) (VP.mark (k.val + 1) : Int) = ((VP.mark (k.val + 1) + q.val : Nat) : Int) := by decide +kernel

theorem encI_length (n : Nat) : (encI n).length = VP.wid n := by simp [encI, VP.enc_length]

theorem take_next {α : Type} (l : List α) (j : Nat) (x : α) (h : l[j]? = some x) : l.take j ++ [x] = l.take (j + 1) := by
  rw [List.take_add_one, h]; rfl

theorem pow_256 (k : Nat) : (2 : Int) ^ (8 * k) = ((256 ^ k : Nat) : Int) := by
  have h : (2 : Int) ^ (8 * k) = ((2 ^ (8 * k) : Nat) : Int) := by rw [Int.natCast_pow]; rfl
  rw [h, Nat.pow_mul]

theorem encI_next (n d j k : Nat) (hd : VP.wid n = d + 1) (hj : 0 < j) (hk : j + k = d) : (encI n).take j ++ [(n : Int) / 2 ^ (8 * k) % 256] = (encI n).take (j + 1) := by
  refine take_next _ _ _ ?_
  rw [encI, List.getElem?_map, VP.enc_get n d j k hd hj hk, pow_256]
  simp

theorem encI_first (n d : Nat) (hn : n < 18446744073709551616) (hd : VP.wid n = d + 1) (h8 : d < 8) : (encI n).take 0 ++ [Go.bits .or .u8 ((n : Int) / 2 ^ (8 * d) % 256) (VP.mark (d + 1) : Int)] = (encI n).take 1 := by
  refine take_next _ _ _ ?_
  have ht := VP.top_lt n d hn hd h8
  have h7 : (2 : Nat) ^ (7 - d) ≤ 128 := Nat.pow_le_pow_right (by omega) (by omega : 7 - d ≤ 7)
  have e : (n : Int) / 2 ^ (8 * d) % 256 = ((n / 256 ^ d : Nat) : Int) := by
    rw [pow_256, ← Int.natCast_ediv]
    have h8 : n / 256 ^ d < 256 := by omega
    generalize n / 256 ^ d = q at *
    omega
  rw [e, or_num ⟨d, by omega⟩ ⟨n / 256 ^ d, by omega⟩ ht, encI, List.getElem?_map, VP.enc_get0 n d hd]
  simp

theorem encI_first8 (n d : Nat) (hn : n < 18446744073709551616) (hd : VP.wid n = d + 1) (h8 : d = 8) : (encI n).take 0 ++ [Go.bits .or .u8 0 (VP.mark (d + 1) : Int)] = (encI n).take 1 := by
  subst h8
  refine take_next _ _ _ ?_
  rw [encI, List.getElem?_map, VP.enc_get0 n 8 hd, VP.top_zero n hn]
  decide +kernel

set_option maxRecDepth 100000 in
set_option maxHeartbeats 1000000 in
theorem spelt1_in (m : Nat) (l bw bn n d : Nat) (hn : n < 18446744073709551616) (hd : VP.wid n = d + 1) (J Jx : List Int → World → Prop)
    (hY : ∀ pre x W, J pre W → pre.length < 9 → YieldAt Fence.wide (m - 1) Tryd.prog l #[.int .u8 x] W fun e W' =>
      (e = .returned (.bool true) ∧ J (pre ++ [x]) W' ∧ KpB bw bn W W') ∨ (e = .returned (.bool false) ∧ Jx (pre ++ [x]) W'))
    (W : World) (hw : W.heap[bw]? = some (.cells #[.int .i64 ((d : Int) + 1)] 3 (0, 0))) (hb : W.heap[bn]? = some (.cells #[.int .u64 n] 72 (0, 0))) (h0 : J [] W) :
    CallsIn Fence.wide m Tryd.prog 68 #[.func (.yield l) #[] #[], .pointer (some ⟨bw, 0, none⟩), .pointer (some ⟨bn, 0, none⟩)] W fun e W' => (∃ v, e = .returned v) ∧
      ((∃ ys, ys = encI n ∧ J ys W') ∨ (∃ pre, True ∧ Jx pre W')) := by
  have hcw := blk_cell hw 0
  have hcb := blk_cell hb 0
  simp at hcw hcb
  have hwb := VP.wid_pos n
  have hd8 : d ≤ 8 := by omega
  have HD := Lib.hid hd
  clear hd hwb
  refine callsIn_of_wp Tryd.func68 rfl trivial ?_ rfl
  simp only [Tryd.ntmps68, List.size_toArray, List.length_cons, List.length_nil, Nat.reduceAdd, Nat.reduceSub, Array.replicate_succ, Array.replicate_zero, List.push_toArray, List.append_toArray, List.nil_append, List.cons_append]
  refine wpIn_scope_straight (wpIn_seq (wpIn_label ?_))
  gi_wp2
  gi_loopw [4] (fun p wr => ∃ (j : Nat) (k : Int), Hid (k = (d : Int) - j) ∧ j ≤ d + 1 ∧ p = .int .i64 k ∧ J ((encI n).take j) wr ∧ wr.heap[bw]? = some (.cells #[.int .i64 ((d : Int) + 1)] 3 (0, 0)) ∧ wr.heap[bn]? = some (.cells #[.int .u64 n] 72 (0, 0)))
    (fun p _ => (intOf p + 1).toNat)
  case atStart => exact ⟨0, d, Lib.hid (by simp), by omega, rfl, h0, hw, hb⟩
  case round =>
    clear hcw hcb hw hb
    obtain ⟨j, k, HK, hj, rfl, hJ, hw, hb⟩ := hrel
    have hcw := blk_cell hw 0
    have hcb := blk_cell hb 0
    simp at hcw hcb
    by_cases hlt : j ≤ d
    · have hk := HK.out
      obtain ⟨k, rfl⟩ : ∃ i : Nat, k = i := ⟨k.toNat, by omega⟩
      by_cases hj0 : j = 0
      · subst hj0
        obtain rfl : k = d := by omega
        clear hk
        by_cases h8 : k < 8
        · obtain ⟨fn, tmps, assign, body, hy, hR⟩ := hY ((encI n).take 0) (Go.bits .or .u8 ((n : Int) / 2 ^ (8 * k) % 256) (VP.mark (k + 1) : Int)) wr hJ (by simp)
          rw [encI_first n k hn HD.out h8] at hR
          gi_wp2
          refine ⟨trivial, fun h => by simp [Fence.wide] at h, (callsIn_wide.2 (ones_any k (by omega) _)).mono ?_⟩
          rintro e w' ⟨rfl, rfl⟩
          gi_wp2
          refine ⟨nofun, hR.mono ?_⟩
          rintro e W3 (⟨rfl, hJ3, hk3⟩ | ⟨rfl, hJx3⟩)
          · have hw3 := hk3.1.trans hw
            have hb3 := hk3.2.trans hb
            gi_wp2
            go_roundw
            case rel => exact ⟨1, k - 1, Lib.hid (by simp), by omega, rfl, hJ3, hw3, hb3⟩
            case measure => simp [intOf]
          · gi_wp2
            rw [Exit.noGoto_ret]
            refine bodyPost_ret (results_none rfl _ _ _) rfl ?_
            exact ⟨⟨_, rfl⟩, .inr ⟨_, trivial, hJx3⟩⟩
        · obtain ⟨fn, tmps, assign, body, hy, hR⟩ := hY ((encI n).take 0) (Go.bits .or .u8 0 (VP.mark (k + 1) : Int)) wr hJ (by simp)
          rw [encI_first8 n k hn HD.out (by omega)] at hR
          gi_wp2
          refine ⟨trivial, fun h => by simp [Fence.wide] at h, (callsIn_wide.2 (ones_any k (by omega) _)).mono ?_⟩
          rintro e w' ⟨rfl, rfl⟩
          gi_wp2
          refine ⟨nofun, hR.mono ?_⟩
          rintro e W3 (⟨rfl, hJ3, hk3⟩ | ⟨rfl, hJx3⟩)
          · have hw3 := hk3.1.trans hw
            have hb3 := hk3.2.trans hb
            gi_wp2
            go_roundw
            case rel => exact ⟨1, k - 1, Lib.hid (by simp), by omega, rfl, hJ3, hw3, hb3⟩
            case measure => simp [intOf]
          · gi_wp2
            rw [Exit.noGoto_ret]
            refine bodyPost_ret (results_none rfl _ _ _) rfl ?_
            exact ⟨⟨_, rfl⟩, .inr ⟨_, trivial, hJx3⟩⟩
      · have hkd : ((k : Int) == (d : Int)) = false := by simp; omega
        have hk8 : k < 8 := by omega
        obtain ⟨fn, tmps, assign, body, hy, hR⟩ := hY ((encI n).take j) ((n : Int) / 2 ^ (8 * k) % 256) wr hJ (by simp; omega)
        rw [encI_next n d j k HD.out (by omega) (by omega)] at hR
        clear hk
        gi_wp2
        refine ⟨nofun, hR.mono ?_⟩
        rintro e W3 (⟨rfl, hJ3, hk3⟩ | ⟨rfl, hJx3⟩)
        · have hw3 := hk3.1.trans hw
          have hb3 := hk3.2.trans hb
          gi_wp2
          go_roundw
          case rel => exact ⟨j + 1, k - 1, Lib.hid (by have := HK.out; omega), by omega, rfl, hJ3, hw3, hb3⟩
          case measure => simp [intOf]
        · gi_wp2
          rw [Exit.noGoto_ret]
          refine bodyPost_ret (results_none rfl _ _ _) rfl ?_
          exact ⟨⟨_, rfl⟩, .inr ⟨_, trivial, hJx3⟩⟩
    · have hk := HK.out
      have hk0 : k < 0 := by omega
      obtain rfl : j = d + 1 := by omega
      rw [List.take_of_length_le (by rw [encI_length, HD.out]; omega)] at hJ
      clear hk
      gi_wp2
      rw [Exit.noGoto_normal]
      go_end0
      exact ⟨⟨_, rfl⟩, .inl ⟨_, rfl, hJ⟩⟩
end Go.Proofs.YtamagdnlicnefaaDoor
