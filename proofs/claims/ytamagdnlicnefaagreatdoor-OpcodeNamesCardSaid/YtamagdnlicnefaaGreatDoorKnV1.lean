/- Contracts of Width, ones, spelt · Contracts of the Tape: Number · Contracts: Tape.All, number, alive · Contracts: Zig, Zag, and the Tape's Signed and Bytes · Contracts of the Reel: find · Contracts of the Reel: move, Number, Signed, At, End · What the laws want of the Reel and of the document's Width: rows that came in, ref Width, what is read of bytes. -/
import Derived.BigQuiet
import Derived.Deep.AppendLies
import Derived.Deep.QuietTactic
import Derived.Laws.EntriesVeiled
import Derived.Lib.Hide
import Derived.Lib.ItoaNum
import Derived.Lib.Zigzag
import Derived.LoopIn
import Derived.LoopNIn
import Derived.LoopTactic
import Derived.Maps.AppendAt
import Derived.OpenShut
import Derived.Outline
import Derived.OwnWalkIn
import Derived.RangeFuncBound
import Derived.RangeFuncBox
import Derived.RangeFuncCalls
import Derived.RangeFuncLeaves
import Derived.RangeFuncNested
import Derived.Shelf.Abstract
import Derived.Shelf.RegionOpen
import Derived.StillTailTactics
import Derived.TacticsInMore
import Derived.WalkKit
import Derived.WalkLawsBesides
import Derived.WalkSpells
import Derived.Test.YtamagdnlicnefaaGreatDoorKnRb
import Derived.Test.YtamagdnlicnefaaGreatDoorKnRd
import Derived.Test.YtamagdnlicnefaaGreatDoorKnShelf
import Derived.Test.YtamagdnlicnefaaGreatDoorKnVp
import Derived.Test.YtamagdnlicnefaaGreatDoorKnW
namespace Go.Proofs.YtamagdnlicnefaaGreatDoor
open Go.RowKit Go.Shelf Go.Proofs.YtamagdnlicnefaaGreatDoorW.PrintWords Go.Proofs.YtamagdnlicnefaaGreatDoorW.PrintLast Go.Proofs.YtamagdnlicnefaaGreatDoorW.PrintMore
attribute [local go_sem] Oper.semAt_some
attribute [local go_sem] max2_int min2_int max_two min_two max_three min_three max_four min_four

theorem ret_int {k : IntKind} {a b : Int} (h : a = b) : Ending.returned (.int k a) = .returned (.int k b) := by rw [h]
theorem bitLen_wid (n : Nat) (hn : n < 18446744073709551616) :
    (VP.wid n : Int) = if (mx 1 ((Lib.bitLen n + 7 - 1) / 7 : Int)) < 9 then mx 1 ((Lib.bitLen n + 7 - 1) / 7 : Int) else 9 := by
  by_cases h0 : n = 0
  · subst h0; decide +kernel
  have hb := Lib.bitLenAux_bounds 64 n (by simpa using hn) h0
  have hL : Lib.bitLen n = Lib.bitLenAux 64 n := rfl
  rw [← hL] at hb
  obtain ⟨h1, h2, h3⟩ := hb
  have hle : Lib.bitLen n ≤ 64 := Lib.bitLen_le n 64 (by omega) (by simpa using hn)
  generalize Lib.bitLen n = L at *
  have key : ∀ L : Fin 65, 1 ≤ L.val → ∀ w : Fin 10, (w.val : Int) = (if (mx 1 ((L.val + 7 - 1) / 7 : Int)) < 9 then mx 1 ((L.val + 7 - 1) / 7 : Int) else 9) →
      (1 ≤ w.val ∧ (w.val ≤ 8 → 2 ^ L.val ≤ 2 ^ (7 * w.val)) ∧ (2 ≤ w.val → 2 ^ (7 * (w.val - 1)) ≤ 2 ^ (L.val - 1))) := by decide +kernel
  have hw : ∃ w : Fin 10, (w.val : Int) = (if (mx 1 ((L + 7 - 1) / 7 : Int)) < 9 then mx 1 ((L + 7 - 1) / 7 : Int) else 9) := by
    have : ∀ L : Fin 65, ∃ w : Fin 10, (w.val : Int) = (if (mx 1 ((L.val + 7 - 1) / 7 : Int)) < 9 then mx 1 ((L.val + 7 - 1) / 7 : Int) else 9) := by decide +kernel
    exact this ⟨L, by omega⟩
  obtain ⟨w, hw⟩ := hw
  rw [← hw]
  obtain ⟨k1, k2, k3⟩ := key ⟨L, by omega⟩ h1 w hw
  have e : VP.wid n = w.val := by
    have hlt := w.isLt
    rcases VP.wid_cases n hn with ⟨e, a⟩ | ⟨e, a, b⟩ | ⟨e, a, b⟩ | ⟨e, a, b⟩ | ⟨e, a, b⟩ | ⟨e, a, b⟩ | ⟨e, a, b⟩ | ⟨e, a, b⟩ | ⟨e, a⟩ <;> rw [e]
    all_goals
      have hc : w.val = 1 ∨ w.val = 2 ∨ w.val = 3 ∨ w.val = 4 ∨ w.val = 5 ∨ w.val = 6 ∨ w.val = 7 ∨ w.val = 8 ∨ w.val = 9 := by omega
      rcases hc with h | h | h | h | h | h | h | h | h <;> simp only [h] at k2 k3 ⊢ <;> simp at k2 k3 <;> omega
  rw [e]
theorem Width_any (n : Nat) (hn : n < 18446744073709551616) (w : World) :
    Calls Tryz.prog 104 #[.int .u64 n] w fun e w' => e = .returned (.int .i64 (VP.wid n)) ∧ w = w' := by
  have hle : Lib.bitLen n ≤ 64 := Lib.bitLen_le n 64 (by omega) (by simpa using hn)
  have hw := bitLen_wid n hn
  have HW := Lib.hid hw
  clear hw
  have hw9 := VP.wid_pos n
  go_enter Tryz.func104, Tryz.ntmps104
  go_wp2_with (go_at_call 119; refine (Tryz.bits_Len64 _ _ (by omega) (by omega)).mono ?_; rintro e w' ⟨rfl, rfl⟩)
  all_goals
    go_ret
    refine ⟨ret_int ?_, rfl⟩
    rw [HW.out]
    simp only [mx]
    repeat' split
  all_goals first | rfl | omega
theorem ones_num : ∀ k : Fin 9, (255 * 2 ^ (8 - k.val) % 256 : Int) = (VP.mark (k.val + 1) : Int) := by decide +kernel
theorem ones_any (k : Nat) (hk : k ≤ 8) (w : World) :
    Calls Tryz.prog 103 #[.int .i64 k] w fun e w' => e = .returned (.int .u8 (VP.mark (k + 1))) ∧ w = w' := by
  have hm := ones_num ⟨k, by omega⟩
  have HM := Lib.hid hm
  clear hm
  go_enter Tryz.func103, Tryz.ntmps103
  go_wp2
  go_ret
  exact ⟨ret_int HM.out, rfl⟩
theorem spelt_any (n : Nat) (hn : n < 18446744073709551616) (w : World) :
    Calls Tryz.prog 99 #[.int .u64 n] w fun e w' => e = .returned (.func (.func 117) #[] #[.pointer (some ⟨w.heap.size + 1, 0, none⟩), .pointer (some ⟨w.heap.size, 0, none⟩)]) ∧ w' = (w.alloc (.cells #[.int .u64 n] 97)).alloc (.cells #[.int .i64 (VP.wid n)] 3) := by
  go_enter Tryz.func99, Tryz.ntmps99
  go_wp2_with (go_at_call 104; refine (Width_any _ hn _).mono ?_; rintro e w' ⟨rfl, rfl⟩)
  go_ret
  exact ⟨rfl, rfl⟩
theorem wpIn_scope_straight {F : Fence} {n : Nat} {P : Program} {Q : Exit → Act → World → Prop} {a : Act} {w : World} {c : Code} (h : c.wpIn F n P (Exit.noGoto Q) a w) : (Code.scope c).wpIn F n P Q a w := by
  intro b k cs hro hb hr
  have h0 : (lone (b.atR a (.code (.scope c) :: k)) cs w).fenced P F := fenced_calm hb hr rfl
  have h1 : step P (lone (b.atR a (.code (.scope c) :: k)) cs w) = .next (lone (b.atR a (.code c :: .inScope c :: k)) cs w) :=
    step_lone_go (by simp [stepG, stepG.exec, Frame.atR])
  have h2 : ∀ a w, step P (lone (b.atR a (.inScope c :: k)) cs w) = .next (lone (b.atR a k) cs w) := fun _ _ =>
    step_lone_go (by simp [stepG, stepG.exec, Frame.atR])
  obtain ⟨e, a₁, w₁, hq, harr⟩ := h b (.inScope c :: k) cs hro hb hr
  have hx : ∀ id, exitTo id (.inScope c :: k) = exitTo id k := fun id => by simp [exitTo]
  cases e with
  | normal => exact ⟨.normal, a₁, w₁, hq, .head h0 h1 (StepsIn.trans harr (.one (fenced_calm hb hr rfl) (h2 _ _)))⟩
  | exit id => exact ⟨.exit id, a₁, w₁, hq, fun k' hk => .head h0 h1 (harr.1 k' (by rw [hx]; exact hk)), fun hr' hk => let ⟨k₁, h3, h4⟩ := harr.2 hr' (by rw [hx]; exact hk); ⟨k₁, h3, .head h0 h1 h4⟩⟩
  | goto l => exact hq.elim
  | ret => exact ⟨_, a₁, w₁, hq, .of_steps (.one h0 h1) harr⟩
  | panic ch => exact ⟨_, a₁, w₁, hq, .of_steps (.one h0 h1) harr⟩
  | outgrown => exact ⟨_, a₁, w₁, hq, .of_steps (.one h0 h1) harr⟩
def encI (n : Nat) : List Int := (VP.enc n).map Int.ofNat
def KpB (a b : Nat) (W W' : World) : Prop := W'.heap[a]? = W.heap[a]? ∧ W'.heap[b]? = W.heap[b]?
theorem or_num : ∀ k : Fin 9, ∀ q : Fin 256, q.val < 2 ^ (7 - k.val) → Go.bits .or .u8 (q.val : Int) (VP.mark (k.val + 1) : Int) = ((VP.mark (k.val + 1) + q.val : Nat) : Int) := by decide +kernel
theorem encI_length (n : Nat) : (encI n).length = VP.wid n := by simp [encI, VP.enc_length]
theorem take_next {α : Type} (l : List α) (j : Nat) (x : α) (h : l[j]? = some x) : l.take j ++ [x] = l.take (j + 1) := by
  rw [List.take_add_one, h]; rfl
theorem pow_256 (k : Nat) : (2 : Int) ^ (8 * k) = ((256 ^ k : Nat) : Int) := by
  have h : (2 : Int) ^ (8 * k) = ((2 ^ (8 * k) : Nat) : Int) := by rw [Int.natCast_pow]; rfl
  rw [h, Nat.pow_mul]
theorem encI_next (n d j k : Nat) (hd : VP.wid n = d + 1) (hj : 0 < j) (hk : j + k = d) : (encI n).take j ++ [(n : Int) / 2 ^ (8 * k) % 256] = (encI n).take (j + 1) := by
  refine take_next _ _ _ ?_
  rw [encI, List.getElem?_map, VP.enc_get n d j k hd hj hk, pow_256]
  simp
theorem encI_first (n d : Nat) (hn : n < 18446744073709551616) (hd : VP.wid n = d + 1) (h8 : d < 8) : (encI n).take 0 ++ [Go.bits .or .u8 ((n : Int) / 2 ^ (8 * d) % 256) (VP.mark (d + 1) : Int)] = (encI n).take 1 := by
  refine take_next _ _ _ ?_
  have ht := VP.top_lt n d hn hd h8
  have h7 : (2 : Nat) ^ (7 - d) ≤ 128 := Nat.pow_le_pow_right (by omega) (by omega : 7 - d ≤ 7)
  have e : (n : Int) / 2 ^ (8 * d) % 256 = ((n / 256 ^ d : Nat) : Int) := by
    rw [pow_256, ← Int.natCast_ediv]
    have h8 : n / 256 ^ d < 256 := by omega
    generalize n / 256 ^ d = q at *
    omega
  rw [e, or_num ⟨d, by omega⟩ ⟨n / 256 ^ d, by omega⟩ ht, encI, List.getElem?_map, VP.enc_get0 n d hd]
  simp
theorem encI_first8 (n d : Nat) (hn : n < 18446744073709551616) (hd : VP.wid n = d + 1) (h8 : d = 8) : (encI n).take 0 ++ [Go.bits .or .u8 0 (VP.mark (d + 1) : Int)] = (encI n).take 1 := by
  subst h8
  refine take_next _ _ _ ?_
  rw [encI, List.getElem?_map, VP.enc_get0 n 8 hd, VP.top_zero n hn]
  decide +kernel
set_option maxRecDepth 100000 in
set_option maxHeartbeats 1000000 in
theorem spelt1_in (m : Nat) (l bw bn n d : Nat) (hn : n < 18446744073709551616) (hd : VP.wid n = d + 1) (J Jx : List Int → World → Prop)
    (hY : ∀ pre x W, J pre W → pre.length < 9 → YieldAt Fence.wide (m - 1) Tryz.prog l #[.int .u8 x] W fun e W' =>
      (e = .returned (.bool true) ∧ J (pre ++ [x]) W' ∧ KpB bw bn W W') ∨ (e = .returned (.bool false) ∧ Jx (pre ++ [x]) W'))
    (W : World) (hw : W.heap[bw]? = some (.cells #[.int .i64 ((d : Int) + 1)] 3 (0, 0))) (hb : W.heap[bn]? = some (.cells #[.int .u64 n] 97 (0, 0))) (h0 : J [] W) :
    CallsIn Fence.wide m Tryz.prog 117 #[.func (.yield l) #[] #[], .pointer (some ⟨bw, 0, none⟩), .pointer (some ⟨bn, 0, none⟩)] W fun e W' => (∃ v, e = .returned v) ∧
      ((∃ ys, ys = encI n ∧ J ys W') ∨ (∃ pre, True ∧ Jx pre W')) := by
  have hcw := blk_cell hw 0
  have hcb := blk_cell hb 0
  simp at hcw hcb
  have hwb := VP.wid_pos n
  have hd8 : d ≤ 8 := by omega
  have HD := Lib.hid hd
  clear hd hwb
  refine callsIn_of_wp Tryz.func117 rfl trivial ?_ rfl
  simp only [Tryz.ntmps117, List.size_toArray, List.length_cons, List.length_nil, Nat.reduceAdd, Nat.reduceSub, Array.replicate_succ, Array.replicate_zero, List.push_toArray, List.append_toArray, List.nil_append, List.cons_append]
  refine wpIn_scope_straight (wpIn_seq (wpIn_label ?_))
  gi_wp2
  gi_loopw [4] (fun p wr => ∃ (j : Nat) (k : Int), Hid (k = (d : Int) - j) ∧ j ≤ d + 1 ∧ p = .int .i64 k ∧ J ((encI n).take j) wr ∧ wr.heap[bw]? = some (.cells #[.int .i64 ((d : Int) + 1)] 3 (0, 0)) ∧ wr.heap[bn]? = some (.cells #[.int .u64 n] 97 (0, 0)))
    (fun p _ => (intOf p + 1).toNat)
  case atStart => exact ⟨0, d, Lib.hid (by simp), by omega, rfl, h0, hw, hb⟩
  case round =>
    clear hcw hcb hw hb
    obtain ⟨j, k, HK, hj, rfl, hJ, hw, hb⟩ := hrel
    have hcw := blk_cell hw 0
    have hcb := blk_cell hb 0
    simp at hcw hcb
    by_cases hlt : j ≤ d
    · have hk := HK.out
      obtain ⟨k, rfl⟩ : ∃ i : Nat, k = i := ⟨k.toNat, by omega⟩
      by_cases hj0 : j = 0
      · subst hj0
        obtain rfl : k = d := by omega
        clear hk
        by_cases h8 : k < 8
        · obtain ⟨fn, tmps, assign, body, hy, hR⟩ := hY ((encI n).take 0) (Go.bits .or .u8 ((n : Int) / 2 ^ (8 * k) % 256) (VP.mark (k + 1) : Int)) wr hJ (by simp)
          rw [encI_first n k hn HD.out h8] at hR
          gi_wp2
          refine ⟨trivial, fun h => by simp [Fence.wide] at h, (callsIn_wide.2 (ones_any k (by omega) _)).mono ?_⟩
          rintro e w' ⟨rfl, rfl⟩
          gi_wp2
          refine ⟨nofun, hR.mono ?_⟩
          rintro e W3 (⟨rfl, hJ3, hk3⟩ | ⟨rfl, hJx3⟩)
          · have hw3 := hk3.1.trans hw
            have hb3 := hk3.2.trans hb
            gi_wp2
            go_roundw
            case rel => exact ⟨1, k - 1, Lib.hid (by simp), by omega, rfl, hJ3, hw3, hb3⟩
            case measure => simp [intOf]
          · gi_wp2
            rw [Exit.noGoto_ret]
            refine bodyPost_ret (results_none rfl _ _ _) rfl ?_
            exact ⟨⟨_, rfl⟩, .inr ⟨_, trivial, hJx3⟩⟩
        · obtain ⟨fn, tmps, assign, body, hy, hR⟩ := hY ((encI n).take 0) (Go.bits .or .u8 0 (VP.mark (k + 1) : Int)) wr hJ (by simp)
          rw [encI_first8 n k hn HD.out (by omega)] at hR
          gi_wp2
          refine ⟨trivial, fun h => by simp [Fence.wide] at h, (callsIn_wide.2 (ones_any k (by omega) _)).mono ?_⟩
          rintro e w' ⟨rfl, rfl⟩
          gi_wp2
          refine ⟨nofun, hR.mono ?_⟩
          rintro e W3 (⟨rfl, hJ3, hk3⟩ | ⟨rfl, hJx3⟩)
          · have hw3 := hk3.1.trans hw
            have hb3 := hk3.2.trans hb
            gi_wp2
            go_roundw
            case rel => exact ⟨1, k - 1, Lib.hid (by simp), by omega, rfl, hJ3, hw3, hb3⟩
            case measure => simp [intOf]
          · gi_wp2
            rw [Exit.noGoto_ret]
            refine bodyPost_ret (results_none rfl _ _ _) rfl ?_
            exact ⟨⟨_, rfl⟩, .inr ⟨_, trivial, hJx3⟩⟩
      · have hkd : ((k : Int) == (d : Int)) = false := by simp; omega
        have hk8 : k < 8 := by omega
        obtain ⟨fn, tmps, assign, body, hy, hR⟩ := hY ((encI n).take j) ((n : Int) / 2 ^ (8 * k) % 256) wr hJ (by simp; omega)
        rw [encI_next n d j k HD.out (by omega) (by omega)] at hR
        clear hk
        gi_wp2
        refine ⟨nofun, hR.mono ?_⟩
        rintro e W3 (⟨rfl, hJ3, hk3⟩ | ⟨rfl, hJx3⟩)
        · have hw3 := hk3.1.trans hw
          have hb3 := hk3.2.trans hb
          gi_wp2
          go_roundw
          case rel => exact ⟨j + 1, k - 1, Lib.hid (by have := HK.out; omega), by omega, rfl, hJ3, hw3, hb3⟩
          case measure => simp [intOf]
        · gi_wp2
          rw [Exit.noGoto_ret]
          refine bodyPost_ret (results_none rfl _ _ _) rfl ?_
          exact ⟨⟨_, rfl⟩, .inr ⟨_, trivial, hJx3⟩⟩
    · have hk := HK.out
      have hk0 : k < 0 := by omega
      obtain rfl : j = d + 1 := by omega
      rw [List.take_of_length_le (by rw [encI_length, HD.out]; omega)] at hJ
      clear hk
      gi_wp2
      rw [Exit.noGoto_normal]
      go_end0
      exact ⟨⟨_, rfl⟩, .inl ⟨_, rfl, hJ⟩⟩
end Go.Proofs.YtamagdnlicnefaaGreatDoor
namespace Go.Proofs.YtamagdnlicnefaaGreatDoor
open Go.RowKit Go.Shelf Go.Proofs.YtamagdnlicnefaaGreatDoorW.PrintWords Go.Proofs.YtamagdnlicnefaaGreatDoorW.PrintLast Go.Proofs.YtamagdnlicnefaaGreatDoorW.PrintMore
attribute [local go_sem] Oper.semAt_some

@[local go_sem] theorem wide_fn (f : Nat) : Fence.wide.fn f = True := rfl
@[local go_sem] theorem wide_depth : Fence.wide.depth.isSome = false := rfl
structure TapeIs (W : World) (g base : Nat) (v : Value) (xs : List Int) : Prop where
  blk : W.heap[g]? = some (.cells #[v] 119 (0, 0))
  own : W.ownsRow base 5 1 v xs.length (nums .u8 xs)
theorem TapeIs.ne {W : World} {g base : Nat} {v : Value} {xs : List Int} (h : TapeIs W g base v xs) : v.ownBlock ≠ some g := fun e => own_ne h.own h.blk (by decide) e.symm
theorem info5 : (Tryz.prog.info? 5).map (fun i => (i.zero, i.size, i.bytes)) = some (some (.int .u8 0), 1, 1) := by kernel_rfl
theorem TNumber_step {w w1 W w2 : World} {g base n d g2 cap : Nat} {v0 v : Value} {xs pre : List Int} {x : Int} (hg : g < w.heap.size) (hsz : w1.heap.size = w.heap.size + 1 + 1 + 1)
    (hT : TapeIs W g base v (xs ++ pre)) (hv : v.ownBlock = v0.ownBlock ∨ ∃ b, v.ownBlock = some b ∧ w.heap.size ≤ b)
    (b2 : Boxed W (w.heap.size + 1) 97 (.int .u64 n)) (b3 : Boxed W (w.heap.size + 1 + 1) 3 (.int .i64 ((d : Int) + 1)))
    (hF : Fr (fun i => i = g ∨ v0.ownBlock = some i) w W)
    (hown3 : w2.ownsRow base 5 1 (.slice (some ⟨g2, 0, none⟩) ((xs ++ pre).length + 1) cap) ((xs ++ pre).length + 1) (nums .u8 (xs ++ pre) ++ [.int .u8 x]))
    (hgrow : (W.alloc (.cells #[.int .u8 x] 5)).drew.grownBy w2 v.ownBlock) (hat : v.ownBlock = some g2 ∨ g2 = W.heap.size + 1)
    (e1 : Boxed w2 w.heap.size 120 (.pointer (some ⟨g, 0, none⟩))) (e2 : Boxed w2 (w.heap.size + 1) 97 (.int .u64 n)) (e3 : Boxed w2 (w.heap.size + 1 + 1) 3 (.int .i64 ((d : Int) + 1)))
    (e4 : w2.heap[g]? = some (.cells #[v] 119 (0, 0))) :
    KeepsFrom w1.heap.size W (w2.setCell ⟨g, 0, none⟩ (.slice (some ⟨g2, 0, none⟩) (xs.length + pre.length + 1) cap)) ∧
    KpB (w.heap.size + 1 + 1) (w.heap.size + 1) W (w2.setCell ⟨g, 0, none⟩ (.slice (some ⟨g2, 0, none⟩) (xs.length + pre.length + 1) cap)) ∧
    ∃ u, TapeIs (w2.setCell ⟨g, 0, none⟩ (.slice (some ⟨g2, 0, none⟩) (xs.length + pre.length + 1) cap)) g base u (xs ++ (pre ++ [x])) ∧ (u.ownBlock = v0.ownBlock ∨ ∃ b, u.ownBlock = some b ∧ w.heap.size ≤ b) ∧
      Boxed (w2.setCell ⟨g, 0, none⟩ (.slice (some ⟨g2, 0, none⟩) (xs.length + pre.length + 1) cap)) w.heap.size 120 (.pointer (some ⟨g, 0, none⟩)) ∧
      Boxed (w2.setCell ⟨g, 0, none⟩ (.slice (some ⟨g2, 0, none⟩) (xs.length + pre.length + 1) cap)) (w.heap.size + 1) 97 (.int .u64 n) ∧
      Boxed (w2.setCell ⟨g, 0, none⟩ (.slice (some ⟨g2, 0, none⟩) (xs.length + pre.length + 1) cap)) (w.heap.size + 1 + 1) 3 (.int .i64 ((d : Int) + 1)) ∧
      Fr (fun i => i = g ∨ v0.ownBlock = some i) w (w2.setCell ⟨g, 0, none⟩ (.slice (some ⟨g2, 0, none⟩) (xs.length + pre.length + 1) cap)) := by
  have hlen : (xs ++ pre).length = xs.length + pre.length := by simp
  rw [hlen] at hown3
  generalize hu : Value.slice (some ⟨g2, 0, none⟩) (xs.length + pre.length + 1) cap = u at *
  have hub : u.ownBlock = some g2 := by rw [← hu]; rfl
  have hA : Below W.heap.size W (W.alloc (.cells #[.int .u8 x] 5)).drew := below_drew ((Below.refl _ W).alloc (Nat.le_refl _) _)
  have hgne : some g ≠ u.ownBlock := own_ne hown3 e4 (by decide)
  have hF2 : Fr (fun i => i = g ∨ v0.ownBlock = some i) w w2 := by
    refine (hF.alloc _).drew.trans (Fr.grown (S := fun i => v.ownBlock = some i) hgrow (fun i _ e => e)) (fun i hi e => ?_)
    rcases hv with h | ⟨b, h, hb⟩
    · exact .inr (by rw [← h]; exact e)
    · rw [h] at e; cases e; omega
  refine ⟨⟨by have := hgrow.size; have := hA.size; simp; omega, fun k o hk ho hc => ?_⟩, ⟨?_, ?_⟩, u, ⟨?_, ?_⟩, ?_, ?_, ?_, ?_, ?_⟩
  · have hkl : k < W.heap.size := (Array.getElem?_eq_some_iff.1 ho).1
    rw [Below.heap_setCell _ _ _ _ (by simp; omega), hgrow.block k (by have := hA.size; omega) ?_, hA.block k hkl]
    · exact ho
    · intro e
      rcases hT.own.2 with ⟨rfl, _⟩ | ⟨g', c', cur, rfl, _, hgb, _⟩
      · simp [Value.ownBlock] at e
      · obtain rfl : k = g' := by simpa [Value.ownBlock] using e
        rw [hgb] at ho; cases ho; cases hc
  · exact (blk_far e3 (p := ⟨g, 0, none⟩) (by simp; omega) _).trans b3.symm
  · exact (blk_far e2 (p := ⟨g, 0, none⟩) (by simp; omega) _).trans b2.symm
  · have := blk_set e4 0 u; simpa using this
  · refine own_setCell ?_ (by exact hgne) _
    have e : (xs ++ (pre ++ [x])).length = xs.length + pre.length + 1 := by simp; omega
    rw [e, ← List.append_assoc, nums_append]
    exact hown3
  · rcases hat with h | h
    · rcases hv with h' | ⟨b, h', hb⟩
      · exact .inl (by rw [hub, ← h, h'])
      · exact .inr ⟨b, by rw [hub, ← h, h'], hb⟩
    · exact .inr ⟨g2, hub, by have := hF.size; omega⟩
  · exact blk_far e1 (p := ⟨g, 0, none⟩) (by simp; omega) _
  · exact blk_far e2 (p := ⟨g, 0, none⟩) (by simp; omega) _
  · exact blk_far e3 (p := ⟨g, 0, none⟩) (by simp; omega) _
  · exact hF2.set _ _ (fun _ => .inl rfl)
set_option maxRecDepth 100000 in
set_option maxHeartbeats 4000000 in
theorem TNumber_any (w : World) (g base n : Nat) (v0 : Value) (xs : List Int) (hn : n < 18446744073709551616) (hT : TapeIs w g base v0 xs) (hbase : base ≤ w.heap.size) (hlen : xs.length + 9 ≤ 140737488355328) :
    Calls Tryz.prog 72 #[.pointer (some ⟨g, 0, none⟩), .int .u64 n] w fun e w' => e = .returned (.pointer (some ⟨g, 0, none⟩)) ∧
      (∃ v, TapeIs w' g base v (xs ++ encI n) ∧ (v.ownBlock = v0.ownBlock ∨ ∃ b, v.ownBlock = some b ∧ w.heap.size ≤ b)) ∧ Fr (fun i => i = g ∨ v0.ownBlock = some i) w w' := by
  obtain ⟨i0, hi0, hz0, hz1, hz2⟩ := info_parts info5
  obtain ⟨d, hd⟩ : ∃ d, VP.wid n = d + 1 := ⟨VP.wid n - 1, by have := VP.wid_pos n; omega⟩
  have hglt : g < w.heap.size := blk_lt hT.blk
  refine (callsIn_wide (n := 9)).1 ?_
  refine callsIn_of_wp_marks Tryz.func72 rfl trivial ?_ rfl
  simp only [Tryz.ntmps72, List.size_toArray, List.length_cons, List.length_nil, Nat.reduceAdd, Nat.reduceSub, Array.replicate_succ, Array.replicate_zero, List.push_toArray, List.append_toArray, List.nil_append, List.cons_append]
  gi_wp2_with (gi_at_call 99; refine (callsIn_wide.2 (spelt_any n hn _)).mono ?_; rintro e w' ⟨rfl, rfl⟩)
  have hB1 := (((Below.refl w.heap.size w).alloc (Nat.le_refl _) (.cells #[.pointer (some ⟨g, 0, none⟩)] 120)).alloc (by simp) (.cells #[.int .u64 n] 97)).alloc (by simp; omega) (.cells #[.int .i64 ((d : Int) + 1)] 3)
  have hbt := (Boxed.new w 120 (.pointer (some ⟨g, 0, none⟩))).alloc (.cells #[.int .u64 n] 97) |>.alloc (.cells #[.int .i64 ((d : Int) + 1)] 3)
  have hbn := (Boxed.new (w.alloc (.cells #[.pointer (some ⟨g, 0, none⟩)] 120)) 97 (.int .u64 n)).alloc (.cells #[.int .i64 ((d : Int) + 1)] 3)
  have hbw := Boxed.new ((w.alloc (.cells #[.pointer (some ⟨g, 0, none⟩)] 120)).alloc (.cells #[.int .u64 n] 97)) 3 (.int .i64 ((d : Int) + 1))
  simp only [World.size_alloc] at hbn hbw
  generalize hw1 : ((w.alloc (.cells #[.pointer (some ⟨g, 0, none⟩)] 120)).alloc (.cells #[.int .u64 n] 97)).alloc (.cells #[.int .i64 ((d : Int) + 1)] 3) = w1 at *
  have hsz : w1.heap.size = w.heap.size + 1 + 1 + 1 := by rw [← hw1]; simp
  have hF1 : Fr (fun i => i = g ∨ v0.ownBlock = some i) w w1 := Fr.of_below hB1
  have hT1 : TapeIs w1 g base v0 (xs ++ []) := by rw [List.append_nil]; exact ⟨(hB1.block g hglt).trans hT.blk, pw_own_below hT.own hB1⟩
  clear hw1
  clear hB1
  refine wpIn_rangeFunc_ownG rfl (by omega) (gf := 117) (lb := #[.pointer (some ⟨w.heap.size + 1 + 1, 0, none⟩), .pointer (some ⟨w.heap.size + 1, 0, none⟩)]) rfl trivial (enters_of Tryz.func117 (by kernel_rfl) rfl)
    (encs := fun x : Int => #[Value.int .u8 x]) (Kp := KpB (w.heap.size + 1 + 1) (w.heap.size + 1)) (S := fun ys => ys = encI n) (Sp := fun _ => True) (N := 9) (w0 := w1)
    (fun l J Jx W hW hJ hJx hY h0 => spelt1_in 8 l _ _ n d hn hd J Jx hY W ((hW.block _ (by omega)).trans hbw) ((hW.block _ (by omega)).trans hbn) h0)
    (fun h k => ⟨k.1.trans h.1, k.2.trans h.2⟩) (fun W l o o' hl _ _ _ => ⟨World.putObj_heap_other (by omega), World.putObj_heap_other (by omega)⟩) (Below.refl _ _) (fun _ => rfl)
    (fun pre W => ∃ v, TapeIs W g base v (xs ++ pre) ∧ (v.ownBlock = v0.ownBlock ∨ ∃ b, v.ownBlock = some b ∧ w.heap.size ≤ b) ∧ Boxed W w.heap.size 120 (.pointer (some ⟨g, 0, none⟩)) ∧
      Boxed W (w.heap.size + 1) 97 (.int .u64 n) ∧ Boxed W (w.heap.size + 1 + 1) 3 (.int .i64 ((d : Int) + 1)) ∧ Fr (fun i => i = g ∨ v0.ownBlock = some i) w W)
    (fun _ _ _ => False) ?hI (fun _ _ _ _ _ hs _ _ => hs) ⟨v0, hT1, .inl rfl, hbt, hbn, hbw, hF1⟩
    (fun x => { tmps := #[.pointer (some ⟨g, 0, none⟩), .int .u64 n, .pointer (some ⟨w.heap.size, 0, none⟩), undef, .pointer none, .int .u8 x, .pointer (some ⟨g, 0, none⟩), .bool true, .int .u64 n, .func (.func 117) #[] #[.pointer (some ⟨w.heap.size + 1 + 1, 0, none⟩), .pointer (some ⟨w.heap.size + 1, 0, none⟩)], .int .u8 x, undef, undef, undef, undef, undef, undef, undef, undef, undef, undef, undef], defers := [] }) ?assign ?body ?done ?stop
  case hI =>
    rintro pre W W' row ⟨v, hT, hv, b1, b2, b3, hF⟩ hg hr
    have hne : ∀ i, i < w1.heap.size → some i ≠ row := fun i hi e => by have := (hr i e.symm).1; omega
    refine ⟨v, ⟨(hg.block g (blk_lt hT.blk) (hne g (by omega))).trans hT.blk, hT.own.kept hg ?_⟩, hv, b1.kept hg (hne _ (by omega)), b2.kept hg (hne _ (by omega)), b3.kept hg (hne _ (by omega)), hF.trans (Fr.grown (S := fun i => w1.heap.size ≤ i) hg (fun i _ e => (hr i e).1)) (fun i hi hle => by omega)⟩
    rcases hT.own.2 with ⟨rfl, _⟩ | ⟨g', cap, cur, rfl, _, hgb, _⟩
    · exact .inl rfl
    · refine .inr fun e' => ?_
      obtain ⟨_, o, ho, hc⟩ := hr g' (by simpa [Value.ownBlock] using e'.symm)
      rw [hgb] at ho; cases ho; cases hc
  case assign =>
    intro l x W K hK
    gi_wp2
    exact hK
  case body =>
    rintro l pre x W ⟨v, hT, hv, b1, b2, b3, hF⟩ hlt
    have hc1 := b1.cell
    have hc2 : W.cell? ⟨g, 0, none⟩ = some v := blk_cell hT.blk 0
    have hne := hT.ne
    have hA : Below W.heap.size W (W.alloc (.cells #[.int .u8 x] 5)).drew := below_drew ((Below.refl _ W).alloc (Nat.le_refl _) _)
    have hl : (xs ++ pre).length + 1 ≤ 140737488355328 := by simp; omega
    gi_wp2
    -- region 4: 11 operations: 0:load 1:load 2:nilCheck 3:fieldAddr 4:load 5:move 6:buildSlice 7:call 8:nilCheck 9:fieldAddr 10:store
    refine start_round (S := fun W' => W'.cell? ⟨w.heap.size, 0, none⟩ = some (.pointer (some ⟨g, 0, none⟩)) ∧ W'.cell? ⟨g, 0, none⟩ = some v) (ds := [10]) #[false, false, false, false, false, false, false, false, false, false, false] (by kernel_rfl) (by kernel_rfl) (fun ⟨_, _, h⟩ => h) rfl rfl ⟨hc1, hc2⟩ (fun hHeld => ?_)
    refine pure_ (i := 5) (N := some 16) (v := ?_) (a' := ?_) #[false, false, false, false, false, true, false, false, false, false, false] rfl rfl (by kernel_rfl) (fun _ _ _ h => h) (Or.inl ⟨by rfl, ?_⟩) ?_ ?_
    rotate_left
    · intro w'
      go_simp
      with_reducible rfl
    rotate_left
    · simp only [Act.put, List.setIfInBounds_toArray, List.set_cons_zero, List.set_cons_succ]
      rfl
    refine take_ (i := 0) (N := some 11) (v := ?_) (a' := ?_) #[true, false, false, false, false, true, false, false, false, false, false] rfl rfl (by kernel_rfl) (fun _ _ _ h => h) (Or.inl ⟨by rfl, ?_⟩) hHeld ?_ ?_
    rotate_left
    · rintro w' ⟨h1, h2⟩
      go_simp
      with_reducible rfl
    rotate_left
    · simp only [Act.put, List.setIfInBounds_toArray, List.set_cons_zero, List.set_cons_succ]
      rfl
    refine take_ (i := 1) (N := some 12) (v := ?_) (a' := ?_) #[true, true, false, false, false, true, false, false, false, false, false] rfl rfl (by kernel_rfl) (fun _ _ _ h => h) (Or.inl ⟨by rfl, ?_⟩) hHeld ?_ ?_
    rotate_left
    · rintro w' ⟨h1, h2⟩
      go_simp
      with_reducible rfl
    rotate_left
    · simp only [Act.put, List.setIfInBounds_toArray, List.set_cons_zero, List.set_cons_succ]
      rfl
    refine pure_ (i := 2) (N := some 13) (v := ?_) (a' := ?_) #[true, true, true, false, false, true, false, false, false, false, false] rfl rfl (by kernel_rfl) (fun _ _ _ h => h) (Or.inl ⟨by rfl, ?_⟩) ?_ ?_
    rotate_left
    · intro w'
      go_simp
      with_reducible rfl
    rotate_left
    · simp only [Act.put, List.setIfInBounds_toArray, List.set_cons_zero, List.set_cons_succ]
      rfl
    refine pure_ (i := 3) (N := some 14) (v := ?_) (a' := ?_) #[true, true, true, true, false, true, false, false, false, false, false] rfl rfl (by kernel_rfl) (fun _ _ _ h => h) (Or.inl ⟨by rfl, ?_⟩) ?_ ?_
    rotate_left
    · intro w'
      go_simp
      with_reducible rfl
    rotate_left
    · simp only [Act.put, List.setIfInBounds_toArray, List.set_cons_zero, List.set_cons_succ]
      rfl
    refine take_ (i := 4) (N := some 15) (v := ?_) (a' := ?_) #[true, true, true, true, true, true, false, false, false, false, false] rfl rfl (by kernel_rfl) (fun _ _ _ h => h) (Or.inl ⟨by rfl, ?_⟩) hHeld ?_ ?_
    rotate_left
    · rintro w' ⟨h1, h2⟩
      go_simp
      with_reducible rfl
    rotate_left
    · simp only [Act.put, List.setIfInBounds_toArray, List.set_cons_zero, List.set_cons_succ]
      rfl
    refine one_ (i := 6) (N := some 17) #[true, true, true, true, true, true, true, false, false, false, false] rfl rfl (by kernel_rfl) (by decide) (fun K hK => ?_)
    refine value_ (w1 := ?_) (v := ?_) (by rfl) rfl ?_ ?_
    rotate_left 2
    · go_simp
      constructor
      · rfl
      · rfl
    refine hK.out _ _ ⟨pw_cell_below hA hc1, pw_cell_below hA hc2⟩ (fun hHeld => ?_)
    clear hK K
    refine norm_ (a' := ?_) ?_ ?_
    rotate_left
    · show Act.put _ (some 17) _ = _
      simp only [Act.put, List.setIfInBounds_toArray, List.set_cons_zero, List.set_cons_succ]
      rfl
    refine one_ (i := 7) (N := some 18) #[true, true, true, true, true, true, true, true, false, false, false] rfl rfl (by kernel_rfl) (by decide) (fun K hK => ?_)
    refine step_append_lies _ (by rfl) (.tmp 15) (.tmp 17) 56 (by rfl) base 5 i0 (.int .u8 0) 1 1 Tryz.underlying56 hi0 hz0 hz1 hz2 rfl (by decide) v (xs ++ pre).length (nums .u8 (xs ++ pre)) (by rfl) (pw_own_below hT.own hA) ⟨W.heap.size, 0, none⟩ 1 1 [.int .u8 x] (by rfl) rfl (cell_one_new _ _ _) (by intro u hu; simp at hu; subst hu; rfl) (by omega) (by unfold maxLen; omega) (by omega) (Nat.le_trans hbase (Nat.le_trans hF.size hA.size)) (W.heap.size + 1) (by simp) ?_
    intro g2 cap w2 hown3 hgrow hat hlt2
    have e1 : Boxed w2 w.heap.size 120 (.pointer (some ⟨g, 0, none⟩)) := Boxed.kept (W := (W.alloc (.cells #[.int .u8 x] 5)).drew) (b1.alloc _) hgrow (own_ne hT.own b1 (by decide))
    have e2 : Boxed w2 (w.heap.size + 1) 97 (.int .u64 n) := Boxed.kept (W := (W.alloc (.cells #[.int .u8 x] 5)).drew) (b2.alloc _) hgrow (own_ne hT.own b2 (by decide))
    have e3 : Boxed w2 (w.heap.size + 1 + 1) 3 (.int .i64 ((d : Int) + 1)) := Boxed.kept (W := (W.alloc (.cells #[.int .u8 x] 5)).drew) (b3.alloc _) hgrow (own_ne hT.own b3 (by decide))
    have e4 : w2.heap[g]? = some (.cells #[v] 119 (0, 0)) := (hgrow.block g (by have := blk_lt hT.blk; simp; omega) (Ne.symm hne)).trans ((hA.block g (blk_lt hT.blk)).trans hT.blk)
    have hc3 := e1.cell
    have hc4 : w2.cell? ⟨g, 0, none⟩ = some v := blk_cell e4 0
    have hf4 : w2.frozen? ⟨g, 0, none⟩ = false := blk_frozen e4 0
    refine hK.out _ _ ⟨hc3, hc4⟩ (fun hHeld => ?_)
    clear hK K
    refine norm_ (a' := ?_) ?_ ?_
    rotate_left
    · show Act.put _ (some 18) _ = _
      simp only [Act.put, List.setIfInBounds_toArray, List.set_cons_zero, List.set_cons_succ]
      rfl
    refine pure_ (i := 8) (N := some 19) (v := ?_) (a' := ?_) #[true, true, true, true, true, true, true, true, true, false, false] rfl rfl (by kernel_rfl) (fun _ _ _ h => h) (Or.inl ⟨by rfl, ?_⟩) ?_ ?_
    rotate_left
    · intro w'
      go_simp
      with_reducible rfl
    rotate_left
    · simp only [Act.put, List.setIfInBounds_toArray, List.set_cons_zero, List.set_cons_succ]
      rfl
    refine pure_ (i := 9) (N := some 20) (v := ?_) (a' := ?_) #[true, true, true, true, true, true, true, true, true, true, false] rfl rfl (by kernel_rfl) (fun _ _ _ h => h) (Or.inl ⟨by rfl, ?_⟩) ?_ ?_
    rotate_left
    · intro w'
      go_simp
      with_reducible rfl
    rotate_left
    · simp only [Act.put, List.setIfInBounds_toArray, List.set_cons_zero, List.set_cons_succ]
      rfl
    refine last_ (i := 10) (N := none) #[true, true, true, true, true, true, true, true, true, true, true] rfl rfl (by kernel_rfl) (by decide) (fun K hK => ?_)
    refine skip_ (w1 := ?_) (by rfl) rfl ?_ ?_
    rotate_left 1
    · go_simp
      rfl
    refine hK.out _ _ ?_
    clear hK K
    refine done_ (by kernel_rfl) ?_
    exact TNumber_step hglt hsz hT hv b2 b3 hF hown3 hgrow hat e1 e2 e3 e4
  case done =>
    rintro D ys W hD rfl ⟨v, hT, hv, b1, b2, b3, hF⟩ hK
    have hc1 := b1.cell
    gi_wp2
    refine ⟨by simp, .inl ⟨_, _, rfl, run_takeDeferred hK, ?_⟩⟩
    refine ⟨_, results_tmp rfl _ _ _, rfl, ⟨v, ⟨(World.putObj_heap_other (by omega)).trans hT.blk, ownsRow_putObj hT.own _ hK rfl⟩, hv⟩, hF.trans (Fr.grown (S := fun i => i = D) (grownBy_putObj' W D _) (fun i _ e => by cases e; rfl)) (fun i hi e => ?_)⟩
    omega
  case stop =>
    rintro D c pre W _ _ h _
    exact h.elim
end Go.Proofs.YtamagdnlicnefaaGreatDoor
namespace Go.Proofs.YtamagdnlicnefaaGreatDoor
open Go.RowKit Go.Shelf Go.Proofs.YtamagdnlicnefaaGreatDoorW.PrintWords Go.Proofs.YtamagdnlicnefaaGreatDoorW.PrintLast Go.Proofs.YtamagdnlicnefaaGreatDoorW.PrintMore

set_option maxHeartbeats 1000000 in
theorem TAll_any (w : World) (g base : Nat) (v : Value) (xs : List Int) (hT : TapeIs w g base v xs) (hlen : xs.length ≤ 140737488355328) :
    Calls Tryz.prog 74 #[.pointer (some ⟨g, 0, none⟩)] w fun e w' => ∃ u, e = .returned u ∧ w'.ownsRow w.heap.size 5 1 u xs.length (nums .u8 xs) ∧ Below w.heap.size w w' := by
  have hc : w.cell? ⟨g, 0, none⟩ = some v := blk_cell hT.blk 0
  rcases hT.own.2 with ⟨rfl, h0⟩ | ⟨b, cap, cur, rfl, hb, hgb, _⟩
  · obtain rfl : xs = [] := List.eq_nil_of_length_eq_zero h0
    go_enter Tryz.func74, Tryz.ntmps74
    go_wp2_with (go_at_call 55; refine (Tryz.bytes_Clone_nil _ _ _).mono ?_; rintro e w' ⟨rfl, rfl⟩)
    go_ret
    exact ⟨_, rfl, World.ownsRow_nil _ _ _ _, Below.refl _ _⟩
  · have hcells : ∀ i, i < xs.length → w.cell? ((⟨b, 0, none⟩ : Addr).add i) = some (.int .u8 (xs.getD i 0)) := fun i hi => by
      have h := hT.own.cells (g := b) rfl i (.int .u8 (xs.getD i 0)) (by simp [nums, List.getElem?_eq_getElem (show i < xs.length by omega), List.getD_eq_getElem?_getD])
      exact h
    have HC := Lib.hid hcells
    clear hcells hgb
    go_enter Tryz.func74, Tryz.ntmps74
    go_wp2_with (go_at_call 55; refine (Tryz.bytes_Clone_at _ _ _ xs _ rfl hlen HC.out).mono ?_; rintro e w' ⟨u, rfl, h1, h2, h3⟩)
    go_ret
    exact ⟨_, rfl, h1, h3⟩
end Go.Proofs.YtamagdnlicnefaaGreatDoor
namespace Go.Proofs.YtamagdnlicnefaaGreatDoor
open Go.RowKit Go.Shelf Go.Proofs.YtamagdnlicnefaaGreatDoorW.PrintWords Go.Proofs.YtamagdnlicnefaaGreatDoorW.PrintLast Go.Proofs.YtamagdnlicnefaaGreatDoorW.PrintMore

def zag (n : Nat) : Int := if n % 2 = 0 then (n / 2 : Nat) else -((n / 2 : Nat) : Int) - 1
theorem xor_u64_comm (a b : Int) : Go.bits .xor .u64 a b = Go.bits .xor .u64 b a := by
  show IntKind.u64.wrap ((BitVec.ofInt 64 a ^^^ BitVec.ofInt 64 b).toNat : Int) = IntKind.u64.wrap ((BitVec.ofInt 64 b ^^^ BitVec.ofInt 64 a).toNat : Int)
  rw [BitVec.xor_comm]
theorem xor_i64_comm (a b : Int) : Go.bits .xor .i64 a b = Go.bits .xor .i64 b a := by
  show IntKind.i64.wrap ((BitVec.ofInt 64 a ^^^ BitVec.ofInt 64 b).toNat : Int) = IntKind.i64.wrap ((BitVec.ofInt 64 b ^^^ BitVec.ofInt 64 a).toNat : Int)
  rw [BitVec.xor_comm]
theorem zig_num (a : Int) (h0 : -9223372036854775808 ≤ a) (h1 : a ≤ 9223372036854775807) :
    Go.bits .xor .u64 (IntKind.u64.wrap ((IntKind.u64.wrap a) * 2)) (IntKind.u64.wrap (a / 9223372036854775808)) = (Lib.zigzag a : Int) := by
  by_cases h : 0 ≤ a
  · have e1 : IntKind.u64.wrap (a / 9223372036854775808) = ((0 : Nat) : Int) := by rw [IntKind.wrap_u64]; omega
    have e2 : IntKind.u64.wrap (IntKind.u64.wrap a * 2) = ((2 * a).toNat : Int) := by rw [IntKind.wrap_u64, IntKind.wrap_u64]; omega
    rw [e1, e2, bits_xor_u64_nat _ _ (by omega) (by omega), Nat.xor_zero, Lib.zigzag_nonneg h]
    omega
  · have e1 : IntKind.u64.wrap (a / 9223372036854775808) = IntKind.u64.max := by
      have : IntKind.u64.max = 18446744073709551615 := by decide
      rw [IntKind.wrap_u64, this]; omega
    rw [e1, xor_u64_comm]
    exact Lib.zigzag_neg h0 (by omega)
theorem zag_num (n : Nat) (hn : n < 18446744073709551616) :
    Go.bits .xor .i64 ((n : Int) / 2) (wrap64 (-(wrap64 (Go.bits .and .u64 (n : Int) 1)))) = zag n := by
  rw [Lib.u64_and1 _ (by omega) (by omega)]
  unfold zag
  have e1 : (n : Int) / 2 = ((n / 2 : Nat) : Int) := by omega
  rw [e1]
  by_cases h : n % 2 = 0
  · have e2 : wrap64 (-(wrap64 ((n : Int) % 2))) = 0 := by unfold wrap64; omega
    rw [e2, if_pos h]
    have : n / 2 < 9223372036854775808 := by omega
    generalize n / 2 = m at *
    show IntKind.i64.wrap ((BitVec.ofInt 64 (m : Int) ^^^ BitVec.ofInt 64 0).toNat : Int) = _
    have h2 : (BitVec.ofInt 64 (m : Int)).toNat = m := by
      rw [BitVec.ofInt_natCast, BitVec.toNat_ofNat]; exact Nat.mod_eq_of_lt (by omega)
    have h3 : (BitVec.ofInt 64 0).toNat = 0 := by decide
    rw [BitVec.toNat_xor, h2, h3, Nat.xor_zero, IntKind.wrap_i64]
    omega
  · have e2 : wrap64 (-(wrap64 ((n : Int) % 2))) = -1 := by unfold wrap64; omega
    rw [e2, if_neg h, xor_i64_comm, Lib.i64_not _ (by omega)]
theorem Zig_any (a : Int) (h0 : -9223372036854775808 ≤ a) (h1 : a ≤ 9223372036854775807) (w : World) :
    Calls Tryz.prog 100 #[.int .i64 a] w fun e w' => e = .returned (.int .u64 (Lib.zigzag a)) ∧ w = w' := by
  have h := zig_num a h0 h1
  have H := Lib.hid h
  clear h
  go_enter Tryz.func100, Tryz.ntmps100
  go_wp2
  go_ret
  refine ⟨ret_int ?_, rfl⟩
  rw [← H.out]
theorem Zag_any (n : Nat) (hn : n < 18446744073709551616) (w : World) :
    Calls Tryz.prog 105 #[.int .u64 n] w fun e w' => e = .returned (.int .i64 (zag n)) ∧ w = w' := by
  have h := zag_num n hn
  have H := Lib.hid h
  clear h
  go_enter Tryz.func105, Tryz.ntmps105
  go_wp2
  go_ret
  refine ⟨ret_int ?_, rfl⟩
  rw [← H.out]
theorem zigzag_lt (a : Int) (h0 : -9223372036854775808 ≤ a) (h1 : a ≤ 9223372036854775807) : Lib.zigzag a < 18446744073709551616 := by
  unfold Lib.zigzag; split <;> omega
set_option maxHeartbeats 1000000 in
theorem TSigned_any (w : World) (g base : Nat) (a : Int) (h0 : -9223372036854775808 ≤ a) (h1 : a ≤ 9223372036854775807) (v0 : Value) (xs : List Int) (hT : TapeIs w g base v0 xs) (hbase : base ≤ w.heap.size) (hlen : xs.length + 9 ≤ 140737488355328) :
    Calls Tryz.prog 73 #[.pointer (some ⟨g, 0, none⟩), .int .i64 a] w fun e w' => e = .returned (.pointer (some ⟨g, 0, none⟩)) ∧
      (∃ v, TapeIs w' g base v (xs ++ encI (Lib.zigzag a)) ∧ (v.ownBlock = v0.ownBlock ∨ ∃ b, v.ownBlock = some b ∧ w.heap.size ≤ b)) ∧ Fr (fun i => i = g ∨ v0.ownBlock = some i) w w' := by
  go_enter Tryz.func73, Tryz.ntmps73
  go_wp2_with fail
  refine (Zig_any a h0 h1 _).mono ?_
  rintro e w1 ⟨rfl, rfl⟩
  go_wp2_with fail
  refine (TNumber_any w g base _ v0 xs (zigzag_lt a h0 h1) hT hbase hlen).mono ?_
  rintro e w2 ⟨rfl, hh⟩
  go_wp2
  go_ret
  exact ⟨rfl, hh⟩
end Go.Proofs.YtamagdnlicnefaaGreatDoor
namespace Go.Proofs.YtamagdnlicnefaaGreatDoor
open Go.RowKit Go.Shelf Go.Proofs.YtamagdnlicnefaaGreatDoorW.PrintWords Go.Proofs.YtamagdnlicnefaaGreatDoorW.PrintLast Go.Proofs.YtamagdnlicnefaaGreatDoorW.PrintMore

structure ReelIs (W : World) (g base : Nat) (v : Value) (bs : List Int) (at_ : Nat) : Prop where
  blk : W.heap[g]? = some (.cells #[v, .int .i64 at_] 103 (0, 0))
  own : W.ownsRow base 5 1 v bs.length (nums .u8 bs)
  le : at_ ≤ bs.length
  small : bs.length ≤ 140737488355328
  bytes : ∀ b ∈ bs, 0 ≤ b ∧ b ≤ 255
def look : List Nat → Nat × Nat × Nat
  | [] => (0, 0, 10)
  | b :: t =>
    if t.length + 1 < VP.lead b then (0, 0, 10)
    else if VP.wid (VP.fold (b - VP.mark (VP.lead b)) (t.take (VP.lead b - 1))) = VP.lead b then (VP.fold (b - VP.mark (VP.lead b)) (t.take (VP.lead b - 1)), VP.lead b, 0)
    else (0, 0, 11)
theorem look_cons (b : Nat) (t : List Nat) : look (b :: t) = if t.length + 1 < VP.lead b then (0, 0, 10) else if VP.wid (VP.fold (b - VP.mark (VP.lead b)) (t.take (VP.lead b - 1))) = VP.lead b then (VP.fold (b - VP.mark (VP.lead b)) (t.take (VP.lead b - 1)), VP.lead b, 0) else (0, 0, 11) := rfl
def rest (bs : List Int) (at_ : Nat) : List Nat := (bs.drop at_).map Int.toNat
def foundV (g : Nat) (r : Nat × Nat × Nat) : Value :=
  if r.2.2 = 0 then .agg #[.int .u64 r.1, .int .i64 r.2.1, .func (.func 102) #[.pointer (some ⟨g, 0, none⟩)] #[]] else .agg #[.int .u64 0, .int .i64 0, .nilFunc]
set_option maxHeartbeats 1000000 in
theorem find_end (w : World) (g base : Nat) (v : Value) (bs : List Int) (hR : ReelIs w g base v bs bs.length) :
    Calls Tryz.prog 75 #[.pointer (some ⟨g, 0, none⟩)] w fun e w' => e = .returned (.tuple #[.agg #[.int .u64 0, .int .i64 0, .nilFunc], .int .i64 10]) ∧ Below w.heap.size w w' := by
  have hB1 : Below w.heap.size w (w.alloc (.cells #[.int .u64 0, .int .i64 0, .nilFunc] 125)) := (Below.refl _ w).alloc (Nat.le_refl _) _
  have hc0 := pw_cell_below hB1 (a := ⟨g, 0, none⟩) (v := v) (blk_cell hR.blk 0)
  have hc1 := pw_cell_below hB1 (a := ⟨g, 1, none⟩) (v := .int .i64 bs.length) (blk_cell hR.blk 1)
  have hF := World.alloc_heap_new w (.cells #[.int .u64 0, .int .i64 0, .nilFunc] 125)
  have q0 := blk_cell hF 0
  have q1 := blk_cell hF 1
  have q2 := blk_cell hF 2
  have z0 := blk_frozen hF 0
  have z1 := blk_frozen hF 1
  have z2 := blk_frozen hF 2
  simp only [List.getElem?_toArray, List.getElem?_cons_zero, List.getElem?_cons_succ] at q0 q1 q2
  clear hF
  have hs := hR.small
  rcases hR.own.2 with ⟨rfl, h0⟩ | ⟨b, cap, cur, rfl, hb, hgb, hlc, hcm, _⟩
  · have h0' : ((bs.length : Nat) : Int) = 0 := by omega
    rw [h0'] at hc1
    clear h0 h0' hs
    go_enter Tryz.func75, Tryz.ntmps75
    go_wp2
    generalize w.alloc (.cells #[.int .u64 0, .int .i64 0, .nilFunc] 125) = w1 at *
    go_quiet (fail)
    go_wp2
    all_goals exact bodyPost_ret (v := .tuple #[.agg #[.int .u64 0, .int .i64 0, .nilFunc], .int .i64 10]) (by simp [results, Tryz.results75, go_sem, q0, q1, q2]) rfl ⟨rfl, (((pw_below_drewN hB1 nq).setCell (by simp) _).setCell (by simp) _).setCell (by simp) _⟩
  · unfold maxLen at hcm
    clear hgb
    go_enter Tryz.func75, Tryz.ntmps75
    go_wp2
    generalize w.alloc (.cells #[.int .u64 0, .int .i64 0, .nilFunc] 125) = w1 at *
    go_quiet (fail)
    go_wp2
    all_goals exact bodyPost_ret (v := .tuple #[.agg #[.int .u64 0, .int .i64 0, .nilFunc], .int .i64 10]) (by simp [results, Tryz.results75, go_sem, q0, q1, q2]) rfl ⟨rfl, (((pw_below_drewN hB1 nq).setCell (by simp) _).setCell (by simp) _).setCell (by simp) _⟩
theorem xor_byte : ∀ b : Fin 256, Go.bits .xor .u8 IntKind.u8.max (b.val : Int) = 255 - (b.val : Int) := by decide +kernel
theorem lz_lead : ∀ b : Fin 256, (8 - (Lib.bitLen (255 - (b.val : Int)).toNat : Int)) = (VP.lead b.val : Int) - 1 := by decide +kernel
theorem LZ_any (x : Int) (h0 : 0 ≤ x) (h1 : x ≤ 255) (w : World) :
    Calls Tryz.prog 101 #[.int .u8 (Go.bits .xor .u8 IntKind.u8.max x)] w fun e w' => e = .returned (.int .i64 ((VP.lead x.toNat : Int) - 1)) ∧ w = w' := by
  obtain ⟨n, rfl⟩ := Int.eq_ofNat_of_zero_le h0
  have e := lz_lead ⟨n, by omega⟩
  rw [xor_byte ⟨n, by omega⟩]
  refine (Tryz.bits_LeadingZeros8 _ w (by simp; omega) (by simp; omega)).mono ?_
  rintro e' w' ⟨rfl, rfl⟩
  exact ⟨ret_int e, rfl⟩
theorem or_u64 (m c : Nat) (hm : m < 72057594037927936) (hc : c < 256) : Go.bits .or .u64 ((m : Int) * 256) (c : Int) = ((256 * m + c : Nat) : Int) := by
  have e1 : (m : Int) * 256 = ((m * 256 : Nat) : Int) := by omega
  rw [e1]
  have hx : (m * 256) ||| c = 256 * m + c := by
    have := Nat.shiftLeft_add_eq_or_of_lt (show c < 2 ^ 8 by omega) m
    rw [Nat.shiftLeft_eq, show (2 : Nat) ^ 8 = 256 from rfl] at this
    omega
  have h1 : (BitVec.ofInt 64 ((m * 256 : Nat) : Int)).toNat = m * 256 := by
    rw [BitVec.ofInt_natCast, BitVec.toNat_ofNat]; exact Nat.mod_eq_of_lt (by omega)
  have h2 : (BitVec.ofInt 64 (c : Int)).toNat = c := by
    rw [BitVec.ofInt_natCast, BitVec.toNat_ofNat]; exact Nat.mod_eq_of_lt (by omega)
  show IntKind.u64.wrap ((BitVec.ofInt 64 ((m * 256 : Nat) : Int) ||| BitVec.ofInt 64 (c : Int)).toNat : Int) = _
  rw [BitVec.toNat_or, h1, h2, hx, IntKind.wrap_u64]
  omega
theorem fold_lt : ∀ (l : List Nat) (a : Nat), (∀ b ∈ l, b < 256) → VP.fold a l < (a + 1) * 256 ^ l.length
  | [], a, _ => by simp [VP.fold]
  | c :: l, a, h => by
    have hc := h c (by simp)
    have ih := fold_lt l (256 * a + c) (fun b hb => h b (by simp [hb]))
    have e : VP.fold a (c :: l) = VP.fold (256 * a + c) l := rfl
    rw [e, List.length_cons, Nat.pow_succ, ← Nat.mul_assoc]
    have h1 : 256 * a + c + 1 ≤ (a + 1) * 256 := by omega
    have h2 := Nat.mul_le_mul_right (256 ^ l.length) h1
    have h3 : (a + 1) * 256 * 256 ^ l.length = (a + 1) * 256 ^ l.length * 256 := by rw [Nat.mul_assoc, Nat.mul_comm 256, ← Nat.mul_assoc]
    omega
theorem fold_snoc (a c : Nat) (l : List Nat) : VP.fold a (l ++ [c]) = 256 * VP.fold a l + c := by simp [VP.fold]
theorem fold_small (m0 L j : Nat) (l : List Nat) (hl : ∀ b ∈ l, b < 256) (hj : l.length = j) (hjL : j ≤ L) (hL : L ≤ 8) (h7 : L < 8 → m0 < 2 ^ (7 - L)) (h8 : L = 8 → m0 = 0) :
    VP.fold m0 l < 18446744073709551616 ∧ (j < L → VP.fold m0 l < 72057594037927936) := by
  have h := fold_lt l m0 hl
  rw [hj] at h
  have hcase : L = 0 ∨ L = 1 ∨ L = 2 ∨ L = 3 ∨ L = 4 ∨ L = 5 ∨ L = 6 ∨ L = 7 ∨ L = 8 := by omega
  have hp : (256 : Nat) ^ j ≤ 256 ^ L := Nat.pow_le_pow_right (by omega) hjL
  have hm : m0 + 1 ≤ 2 ^ (8 - L) := by
    rcases hcase with rfl | rfl | rfl | rfl | rfl | rfl | rfl | rfl | rfl <;> simp at h7 h8 ⊢ <;> omega
  constructor
  · have h1 : (m0 + 1) * 256 ^ j ≤ 2 ^ (8 - L) * 256 ^ L := Nat.mul_le_mul hm hp
    rcases hcase with rfl | rfl | rfl | rfl | rfl | rfl | rfl | rfl | rfl <;> simp at h1 <;> omega
  · intro hlt
    have hp : (256 : Nat) ^ j ≤ 256 ^ (L - 1) := Nat.pow_le_pow_right (by omega) (by omega)
    have h1 : (m0 + 1) * 256 ^ j ≤ 2 ^ (8 - L) * 256 ^ (L - 1) := Nat.mul_le_mul hm hp
    rcases hcase with rfl | rfl | rfl | rfl | rfl | rfl | rfl | rfl | rfl <;> simp at h1 <;> omega
theorem rest_lt (bs : List Int) (hb : ∀ b ∈ bs, 0 ≤ b ∧ b ≤ 255) (p : Nat) : ∀ b ∈ rest bs p, b < 256 := by
  intro b h
  obtain ⟨y, hy, rfl⟩ := List.mem_map.1 h
  have := hb y (List.mem_of_mem_drop hy)
  omega
structure FAt (w W : World) (g b cap n p : Nat) (x : Int) : Prop where
  below : Below w.heap.size w W
  c0 : W.cell? ⟨g, 0, none⟩ = some (.slice (some ⟨b, 0, none⟩) n cap)
  c1 : W.cell? ⟨g, 1, none⟩ = some (.int .i64 p)
  c2 : W.cell? ⟨b, p, none⟩ = some (.int .u8 x)
  box : W.heap[w.heap.size]? = some (.cells #[.int .u64 0, .int .i64 0, .nilFunc] 125 (0, 0))
theorem FAt.drewN {w W : World} {g b cap n p : Nat} {x : Int} (h : FAt w W g b cap n p x) (m : Nat) : FAt w (W.drewN m) g b cap n p x := ⟨pw_below_drewN h.below m, h.c0, h.c1, h.c2, h.box⟩
theorem FAt.drew {w W : World} {g b cap n p : Nat} {x : Int} (h : FAt w W g b cap n p x) : FAt w W.drew g b cap n p x := ⟨below_drew h.below, h.c0, h.c1, h.c2, h.box⟩
theorem FAt.later {w W W' : World} {g b cap n p : Nat} {x : Int} (h : FAt w W g b cap n p x) (hb : Below W.heap.size W W') : FAt w W' g b cap n p x :=
  ⟨below_then h.below h.below.size hb, pw_cell_below hb h.c0, pw_cell_below hb h.c1, pw_cell_below hb h.c2, (hb.block _ (blk_lt h.box)).trans h.box⟩
theorem FAt.cells {w W : World} {g b cap n p : Nat} {x : Int} (h : FAt w W g b cap n p x) :
    (W.cell? ⟨w.heap.size, 0, none⟩ = some (.int .u64 0) ∧ W.cell? ⟨w.heap.size, 1, none⟩ = some (.int .i64 0) ∧ W.cell? ⟨w.heap.size, 2, none⟩ = some .nilFunc) ∧
    (W.frozen? ⟨w.heap.size, 0, none⟩ = false ∧ W.frozen? ⟨w.heap.size, 1, none⟩ = false ∧ W.frozen? ⟨w.heap.size, 2, none⟩ = false) :=
  ⟨⟨blk_cell h.box 0, blk_cell h.box 1, blk_cell h.box 2⟩, blk_frozen h.box 0, blk_frozen h.box 1, blk_frozen h.box 2⟩
theorem andnot_lead : ∀ b : Fin 256, Go.bits .andNot .u8 (b.val : Int) (VP.mark (VP.lead b.val) : Int) = ((b.val - VP.mark (VP.lead b.val) : Nat) : Int) := by decide +kernel
set_option maxRecDepth 100000 in
set_option maxHeartbeats 2000000 in
theorem find_some (w : World) (g base b cap : Nat) (bs : List Int) (p : Nat) (hR : ReelIs w g base (.slice (some ⟨b, 0, none⟩) bs.length cap) bs p) (hlt : p < bs.length) :
    Calls Tryz.prog 75 #[.pointer (some ⟨g, 0, none⟩)] w fun e w' => e = .returned (.tuple #[foundV g (look (rest bs p)), .int .i64 (look (rest bs p)).2.2]) ∧ Below w.heap.size w w' := by
  have hs := hR.small
  have hcap : bs.length ≤ cap ∧ cap ≤ 9223372036854775807 := by
    rcases hR.own.2 with ⟨h, _⟩ | ⟨_, _, _, h, _, _, h1, h2, _⟩
    · cases h
    · cases h; exact ⟨h1, h2⟩
  obtain ⟨hl1, hl2⟩ := hcap
  have hcp : ¬ cap = p := by omega
  have hcells : ∀ i, i < bs.length → w.cell? ⟨b, i, none⟩ = some (.int .u8 (bs.getD i 0)) := fun i hi => by
    have h := hR.own.cells (g := b) rfl i (.int .u8 (bs.getD i 0)) (by simp [nums, List.getElem?_eq_getElem hi, List.getD_eq_getElem?_getD])
    rwa [add_plain] at h
  have hb := hR.bytes (bs.getD p 0) (by rw [List.getD_eq_getElem?_getD, List.getElem?_eq_getElem hlt]; exact List.getElem_mem hlt)
  obtain ⟨x, hx⟩ : ∃ x : Int, bs.getD p 0 = x := ⟨_, rfl⟩
  have hrest : rest bs p = x.toNat :: rest bs (p + 1) := by
    unfold rest
    rw [List.drop_eq_getElem_cons hlt, List.map_cons, ← hx, List.getD_eq_getElem?_getD, List.getElem?_eq_getElem hlt]
    rfl
  have hrl : (rest bs (p + 1)).length + 1 = bs.length - p := by simp [rest]; omega
  have hB1 : Below w.heap.size w (w.alloc (.cells #[.int .u64 0, .int .i64 0, .nilFunc] 125)) := (Below.refl _ w).alloc (Nat.le_refl _) _
  have F1 : FAt w (w.alloc (.cells #[.int .u64 0, .int .i64 0, .nilFunc] 125)) g b cap bs.length p x :=
    ⟨hB1, pw_cell_below hB1 (blk_cell hR.blk 0), pw_cell_below hB1 (blk_cell hR.blk 1), pw_cell_below hB1 ((hcells p hlt).trans (by rw [hx])), World.alloc_heap_new w _⟩
  rw [hx] at hb
  have hL := VP.mark_lead x.toNat (by omega)
  obtain ⟨L, hLd⟩ : ∃ L, VP.lead x.toNat = L + 1 := ⟨VP.lead x.toNat - 1, by omega⟩
  have HC := Lib.hid hcells
  have HX := Lib.hid hx
  have HR := Lib.hid hR
  have HRE := Lib.hid hrest
  have HRL := Lib.hid hrl
  have HLL := Lib.hid hL
  have HLD := Lib.hid hLd
  have hL9 : L ≤ 8 := by omega
  have LZ : ∀ w', Calls Tryz.prog 101 #[.int .u8 (Go.bits .xor .u8 IntKind.u8.max x)] w' fun e w'' => e = .returned (.int .i64 L) ∧ w' = w'' := fun w' => by
    have h := LZ_any x hb.1 hb.2 w'
    rw [hLd] at h
    simpa using h
  have HZ := Lib.hid LZ
  obtain ⟨D, hD⟩ : ∃ D, bs.length - p = D := ⟨_, rfl⟩
  have HD := Lib.hid hD
  have hD0 : 0 < D := by omega
  have hDc : D ≤ 140737488355328 := by omega
  clear hcells hx hR hrest hrl hL hLd LZ hB1
  go_enter Tryz.func75, Tryz.ntmps75
  go_wp2
  generalize w.alloc (.cells #[.int .u64 0, .int .i64 0, .nilFunc] 125) = w1 at *
  have hc0 := F1.c0
  have hc1 := F1.c1
  go_quiet (fail)
  have F2 := F1.drewN nq
  clear hc0 hc1 F1
  generalize w1.drewN nq = w2 at *
  have hc2 := F2.c2
  clear w1
  have F3 : FAt w (w2.alloc (.cells #[.int .u64 0, .int .i64 ((L : Int) + 1), .func (.func 102) #[.pointer (some ⟨g, 0, none⟩)] #[]] 125)) g b cap bs.length p x := F2.later ((Below.refl _ _).alloc (Nat.le_refl _) _)
  have hX3 := World.alloc_heap_new w2 (.cells #[.int .u64 0, .int .i64 ((L : Int) + 1), .func (.func 102) #[.pointer (some ⟨g, 0, none⟩)] #[]] 125)
  by_cases hsh : D < L + 1
  · obtain ⟨⟨q0, q1, q2⟩, z0, z1, z2⟩ := F3.cells
    have hbel := F3.below
    have e : look (rest bs p) = (0, 0, 10) := by rw [HRE.out, look_cons, HLD.out, HRL.out, HD.out, if_pos hsh]
    have HE := Lib.hid e
    clear e
    go_wp2_with (go_at_call 101; refine (HZ.out _).mono ?_; rintro e w' ⟨rfl, rfl⟩)
    rw [HE.out]
    exact bodyPost_ret (v := .tuple #[.agg #[.int .u64 0, .int .i64 0, .nilFunc], .int .i64 10]) (by simp [results, Tryz.results75, go_sem, q0, q1, q2]) rfl ⟨rfl, ((hbel.setCell (by simp) _).setCell (by simp) _).setCell (by simp) _⟩
  · go_wp2_with (go_at_call 101; refine (HZ.out _).mono ?_; rintro e w' ⟨rfl, rfl⟩)
    have hB23 : Below w2.heap.size w2 (w2.alloc (.cells #[.int .u64 0, .int .i64 ((L : Int) + 1), .func (.func 102) #[.pointer (some ⟨g, 0, none⟩)] #[]] 125)) := (Below.refl _ _).alloc (Nat.le_refl _) _
    generalize w2.alloc (.cells #[.int .u64 0, .int .i64 ((L : Int) + 1), .func (.func 102) #[.pointer (some ⟨g, 0, none⟩)] #[]] 125) = w3 at *
    have hc3 := F3.c2
    have x0 := blk_cell hX3 0
    have x1 := blk_cell hX3 1
    have y0 := blk_frozen hX3 0
    simp only [List.getElem?_toArray, List.getElem?_cons_zero, List.getElem?_cons_succ] at x0 x1
    clear hc2
    have hmk : VP.mark (L + 1) ≤ x.toNat ∧ (L < 8 → x.toNat < VP.mark (L + 1 + 1)) := by have h := HLL.out; rw [HLD.out] at h; exact ⟨h.1, fun h8 => h.2.1 (by omega)⟩
    obtain ⟨m0, hm0⟩ : ∃ m, x.toNat - VP.mark (L + 1) = m := ⟨_, rfl⟩
    have han : Go.bits .andNot .u8 x (VP.mark (L + 1) : Int) = (m0 : Int) := by
      have h := andnot_lead ⟨x.toNat, by omega⟩
      simp only [HLD.out, hm0] at h
      rwa [Int.toNat_of_nonneg hb.1] at h
    have hw1 : IntKind.i64.wrap (L : Int) = L := by rw [IntKind.wrap_i64]; omega
    have hm255 : m0 ≤ 255 := by omega
    have hw2 : IntKind.u64.wrap (m0 : Int) = m0 := by rw [IntKind.wrap_u64]; omega
    have HMK := Lib.hid hmk
    have HM0 := Lib.hid hm0
    clear hmk hm0
    have FF2 := Aside0.mk F2
    clear F2
    generalize hX : w2.heap.size = X at *
    -- region 9: 11 operations: 0:move 1:indexAddr 2:load 3:fieldAddr 4:load 5:binOp 6:call 7:binOp 8:convert 9:fieldAddr 10:store
    refine start_ (S := fun W' => W'.cell? ⟨b, p, none⟩ = some (.int .u8 x) ∧ W'.cell? ⟨X, 1, none⟩ = some (.int .i64 ((L : Int) + 1))) (ds := [10]) #[false, false, false, false, false, false, false, false, false, false, false] (by kernel_rfl) rfl rfl ⟨hc3, x1⟩ (fun hHeld => ?_)
    refine pure_ (i := 0) (N := some 39) (v := ?_) (a' := ?_) #[true, false, false, false, false, false, false, false, false, false, false] rfl rfl (by kernel_rfl) (fun _ _ _ h => h) (Or.inl ⟨by rfl, ?_⟩) ?_ ?_
    rotate_left
    · intro w'
      go_simp
      with_reducible rfl
    rotate_left
    · simp only [Act.put, List.setIfInBounds_toArray, List.set_cons_zero, List.set_cons_succ]
      rfl
    refine pure_ (i := 1) (N := some 40) (v := ?_) (a' := ?_) #[true, true, false, false, false, false, false, false, false, false, false] rfl rfl (by kernel_rfl) (fun _ _ _ h => h) (Or.inl ⟨by rfl, ?_⟩) ?_ ?_
    rotate_left
    · intro w'
      go_simp
      with_reducible rfl
    rotate_left
    · simp only [Act.put, List.setIfInBounds_toArray, List.set_cons_zero, List.set_cons_succ]
      rfl
    refine pure_ (i := 3) (N := some 42) (v := ?_) (a' := ?_) #[true, true, false, true, false, false, false, false, false, false, false] rfl rfl (by kernel_rfl) (fun _ _ _ h => h) (Or.inl ⟨by rfl, ?_⟩) ?_ ?_
    rotate_left
    · intro w'
      go_simp
      with_reducible rfl
    rotate_left
    · simp only [Act.put, List.setIfInBounds_toArray, List.set_cons_zero, List.set_cons_succ]
      rfl
    refine take_ (i := 2) (N := some 41) (v := ?_) (a' := ?_) #[true, true, true, true, false, false, false, false, false, false, false] rfl rfl (by kernel_rfl) (fun _ _ _ h => h) (Or.inl ⟨by rfl, ?_⟩) hHeld ?_ ?_
    rotate_left
    · rintro w' ⟨h1, h2⟩
      go_simp
      with_reducible rfl
    rotate_left
    · simp only [Act.put, List.setIfInBounds_toArray, List.set_cons_zero, List.set_cons_succ]
      rfl
    refine take_ (i := 4) (N := some 43) (v := ?_) (a' := ?_) #[true, true, true, true, true, false, false, false, false, false, false] rfl rfl (by kernel_rfl) (fun _ _ _ h => h) (Or.inl ⟨by rfl, ?_⟩) hHeld ?_ ?_
    rotate_left
    · rintro w' ⟨h1, h2⟩
      go_simp
      with_reducible rfl
    rotate_left
    · simp only [Act.put, List.setIfInBounds_toArray, List.set_cons_zero, List.set_cons_succ]
      rfl
    refine pure_ (i := 5) (N := some 44) (v := ?_) (a' := ?_) #[true, true, true, true, true, true, false, false, false, false, false] rfl rfl (by kernel_rfl) (fun _ _ _ h => h) (Or.inl ⟨by rfl, ?_⟩) ?_ ?_
    rotate_left
    · intro w'
      go_simp
      with_reducible rfl
    rotate_left
    · simp only [Act.put, List.setIfInBounds_toArray, List.set_cons_zero, List.set_cons_succ]
      rfl
    refine one_ (i := 6) (N := some 45) #[true, true, true, true, true, true, true, false, false, false, false] rfl rfl (by kernel_rfl) (by decide) (fun K hK => ?_)
    refine goes_ Tryz.func103 (by kernel_rfl) rfl #[.int .i64 L] (by rfl) rfl rfl (by simp only [List.map_toArray, List.map_cons, List.map_nil]; rfl) ?_
    refine (ones_any L hL9 _).mono ?_
    rintro e w' ⟨rfl, rfl⟩
    refine ⟨_, rfl, ?_⟩
    refine hK.out _ _ ⟨hc3, x1⟩ (fun hHeld => ?_)
    clear hK K
    refine norm_ (a' := ?_) ?_ ?_
    rotate_left
    · show Act.put _ (some 45) _ = _
      simp only [Act.put, List.setIfInBounds_toArray, List.set_cons_zero, List.set_cons_succ]
      rfl
    refine pure_ (i := 7) (N := some 46) (v := ?_) (a' := ?_) #[true, true, true, true, true, true, true, true, false, false, false] rfl rfl (by kernel_rfl) (fun _ _ _ h => h) (Or.inl ⟨by rfl, ?_⟩) ?_ ?_
    rotate_left
    · intro w'
      go_simp
      with_reducible rfl
    rotate_left
    · simp only [Act.put, List.setIfInBounds_toArray, List.set_cons_zero, List.set_cons_succ]
      rfl
    refine pure_ (i := 8) (N := some 47) (v := ?_) (a' := ?_) #[true, true, true, true, true, true, true, true, true, false, false] rfl rfl (by kernel_rfl) (fun _ _ _ h => h) (Or.inl ⟨by rfl, ?_⟩) ?_ ?_
    rotate_left
    · intro w'
      go_simp
      with_reducible rfl
    rotate_left
    · simp only [Act.put, List.setIfInBounds_toArray, List.set_cons_zero, List.set_cons_succ]
      rfl
    refine pure_ (i := 9) (N := some 48) (v := ?_) (a' := ?_) #[true, true, true, true, true, true, true, true, true, true, false] rfl rfl (by kernel_rfl) (fun _ _ _ h => h) (Or.inl ⟨by rfl, ?_⟩) ?_ ?_
    rotate_left
    · intro w'
      go_simp
      with_reducible rfl
    rotate_left
    · simp only [Act.put, List.setIfInBounds_toArray, List.set_cons_zero, List.set_cons_succ]
      rfl
    refine last_ (i := 10) (N := none) #[true, true, true, true, true, true, true, true, true, true, true] rfl rfl (by kernel_rfl) (by decide) (fun K hK => ?_)
    refine skip_ (w1 := ?_) (by rfl) rfl ?_ ?_
    rotate_left 1
    · go_simp
      rfl
    refine hK.out _ _ ?_
    clear hK K
    refine done_ (by kernel_rfl) ?_
    clear hw1 hw2 han
    have HB4 : Below X w2 (w3.setCell ⟨X, 0, none⟩ (.int .u64 m0)).drew := below_drew (hB23.setCell (Nat.le_refl _) _)
    have hX4 : (w3.setCell ⟨X, 0, none⟩ (.int .u64 m0)).drew.heap[X]? = some (.cells #[.int .u64 m0, .int .i64 ((L : Int) + 1), .func (.func 102) #[.pointer (some ⟨g, 0, none⟩)] #[]] 125 (0, 0)) := by
      have h := blk_set hX3 0 (.int .u64 m0)
      simp at h
      exact h
    clear hX3 x0 x1 y0 hc3 F3 hHeld
    generalize (w3.setCell ⟨X, 0, none⟩ (.int .u64 m0)).drew = w4 at *
    clear hB23
    have x1 := blk_cell hX4 1
    simp only [List.getElem?_toArray, List.getElem?_cons_zero, List.getElem?_cons_succ] at x1
    have HX2 := Lib.hid hX
    have HHD := Lib.hid hD
    have hcl : (L : Int) + 1 ≤ ((cap - p : Nat) : Int) := by omega
    have hcl2 : L + 1 ≤ cap - p := by omega
    clear hX hD x1
    have HB := Aside0.mk HB4
    clear HB4
    have hm7 : L < 8 → m0 < 2 ^ (7 - L) := by
      intro h8
      have hmk := HMK.out
      have hm0 := HM0.out
      have h2 := hmk.2 h8
      have hc : L = 0 ∨ L = 1 ∨ L = 2 ∨ L = 3 ∨ L = 4 ∨ L = 5 ∨ L = 6 ∨ L = 7 := by omega
      rcases hc with rfl | rfl | rfl | rfl | rfl | rfl | rfl | rfl <;> (simp only [VP.mark, Nat.reduceSub, Nat.reducePow, Nat.reduceAdd] at *; omega)
    have hm8 : L = 8 → m0 = 0 := by
      rintro rfl
      have hmk := HMK.out
      have hm0 := HM0.out
      simp only [VP.mark, Nat.reduceSub, Nat.reducePow, Nat.reduceAdd] at *; omega
    have HS : ∀ j, j ≤ L → VP.fold m0 ((rest bs (p + 1)).take j) < 18446744073709551616 ∧ (j < L → VP.fold m0 ((rest bs (p + 1)).take j) < 72057594037927936) := fun j hj =>
      fold_small m0 L j _ (fun b h => rest_lt bs HR.out.bytes (p + 1) b (List.mem_of_mem_take h)) (by rw [List.length_take]; have := HRL.out; have := HHD.out; omega) hj hL9 hm7 hm8
    have HSS := Lib.hid HS
    clear HS hm7 hm8
    have x1 := blk_cell hX4 1
    simp only [List.getElem?_toArray, List.getElem?_cons_zero, List.getElem?_cons_succ] at x1
    go_wp2
    all_goals
      go_loopw [7, 54] (fun c i wr => ∃ j : Nat, j ≤ L ∧ i = .int .i64 j ∧ Aside0 (Below X w2 wr) ∧ wr.heap[X]? = some (.cells #[.int .u64 (VP.fold m0 ((rest bs (p + 1)).take j) : Nat), .int .i64 ((L : Int) + 1), .func (.func 102) #[.pointer (some ⟨g, 0, none⟩)] #[]] 125 (0, 0)))
        (fun _ i _ => L - (intOf i).toNat)
      case atStart => exact ⟨0, Nat.zero_le _, rfl, HB, hX4⟩
      case round =>
        clear x1 hX4
        obtain ⟨j, hj, rfl, HBj, hXj⟩ := hrel
        have x0 := blk_cell hXj 0
        have x1 := blk_cell hXj 1
        have y0 := blk_frozen hXj 0
        simp only [List.getElem?_toArray, List.getElem?_cons_zero, List.getElem?_cons_succ] at x0 x1
        by_cases hlt2 : j < L
        · by_cases hz : cap - p = 1
          · exfalso; omega
          · have hpj : p + 1 + j < bs.length := by have := HHD.out; omega
            have hBw : Below w.heap.size w wr := below_then FF2.out.below FF2.out.below.size (by rw [HX2.out]; exact HBj.out)
            have hcj := pw_cell_below hBw (HC.out (p + 1 + j) hpj)
            have hyb := HR.out.bytes (bs.getD (p + 1 + j) 0) (by rw [List.getD_eq_getElem?_getD, List.getElem?_eq_getElem hpj]; exact List.getElem_mem hpj)
            have hnx : (rest bs (p + 1)).take (j + 1) = (rest bs (p + 1)).take j ++ [(bs.getD (p + 1 + j) 0).toNat] := by
              refine (take_next _ _ _ ?_).symm
              simp only [rest, List.getElem?_map, List.getElem?_drop]
              rw [List.getElem?_eq_getElem hpj, List.getD_eq_getElem?_getD, List.getElem?_eq_getElem hpj]
              rfl
            have hsm := (HSS.out j hj).2 hlt2
            have hor := or_u64 _ (bs.getD (p + 1 + j) 0).toNat hsm (by omega)
            rw [← fold_snoc, ← hnx, Int.toNat_of_nonneg hyb.1] at hor
            have HOR := Lib.hid hor
            clear hor hnx
            generalize bs.getD (p + 1 + j) 0 = y at *
            go_wp2
            all_goals
              go_roundw
              case rel =>
                refine ⟨j + 1, by omega, by go_num, Aside0.mk (HBj.out.setCell (Nat.le_refl _) _), ?_⟩
                rw [← HOR.out]
                have h := blk_set hXj 0 (.int .u64 (Go.bits .or .u64 (((VP.fold m0 ((rest bs (p + 1)).take j) : Nat) : Int) * 256) y))
                simp at h
                exact h
              case measure =>
                simp [intOf]
                omega
        · obtain rfl : j = L := by omega
          go_wp2
          have HN := Lib.hid (HSS.out j hj).1
          -- region 15: 6 operations: 0:fieldAddr 1:load 2:call 3:fieldAddr 4:load 5:binOp
          refine start_ (S := fun W' => W'.cell? ⟨X, 0, none⟩ = some (.int .u64 (VP.fold m0 ((rest bs (p + 1)).take j) : Nat)) ∧ W'.cell? ⟨X, 1, none⟩ = some (.int .i64 ((j : Int) + 1))) (ds := []) #[false, false, false, false, false, false] (by kernel_rfl) rfl rfl ⟨x0, x1⟩ (fun hHeld => ?_)
          refine pure_ (i := 0) (N := some 66) (v := ?_) (a' := ?_) #[true, false, false, false, false, false] rfl rfl (by kernel_rfl) (fun _ _ _ h => h) (Or.inl ⟨by rfl, ?_⟩) ?_ ?_
          rotate_left
          · intro w'
            go_simp
            with_reducible rfl
          rotate_left
          · simp only [Act.put, List.setIfInBounds_toArray, List.set_cons_zero, List.set_cons_succ]
            rfl
          refine pure_ (i := 3) (N := some 69) (v := ?_) (a' := ?_) #[true, false, false, true, false, false] rfl rfl (by kernel_rfl) (fun _ _ _ h => h) (Or.inl ⟨by rfl, ?_⟩) ?_ ?_
          rotate_left
          · intro w'
            go_simp
            with_reducible rfl
          rotate_left
          · simp only [Act.put, List.setIfInBounds_toArray, List.set_cons_zero, List.set_cons_succ]
            rfl
          refine take_ (i := 1) (N := some 67) (v := ?_) (a' := ?_) #[true, true, false, true, false, false] rfl rfl (by kernel_rfl) (fun _ _ _ h => h) (Or.inl ⟨by rfl, ?_⟩) hHeld ?_ ?_
          rotate_left
          · rintro w' ⟨h1, h2⟩
            go_simp
            with_reducible rfl
          rotate_left
          · simp only [Act.put, List.setIfInBounds_toArray, List.set_cons_zero, List.set_cons_succ]
            rfl
          refine take_ (i := 4) (N := some 70) (v := ?_) (a' := ?_) #[true, true, false, true, true, false] rfl rfl (by kernel_rfl) (fun _ _ _ h => h) (Or.inl ⟨by rfl, ?_⟩) hHeld ?_ ?_
          rotate_left
          · rintro w' ⟨h1, h2⟩
            go_simp
            with_reducible rfl
          rotate_left
          · simp only [Act.put, List.setIfInBounds_toArray, List.set_cons_zero, List.set_cons_succ]
            rfl
          refine one_ (i := 2) (N := some 68) #[true, true, true, true, true, false] rfl rfl (by kernel_rfl) (by decide) (fun K hK => ?_)
          refine goes_ Tryz.func104 (by kernel_rfl) rfl #[.int .u64 (VP.fold m0 ((rest bs (p + 1)).take j) : Nat)] (by rfl) rfl rfl (by simp only [List.map_toArray, List.map_cons, List.map_nil]; rfl) ?_
          refine (Width_any _ HN.out _).mono ?_
          rintro e w' ⟨rfl, rfl⟩
          refine ⟨_, rfl, ?_⟩
          refine hK.out _ _ ⟨x0, x1⟩ (fun hHeld => ?_)
          clear hK K
          refine norm_ (a' := ?_) ?_ ?_
          rotate_left
          · show Act.put _ (some 68) _ = _
            simp only [Act.put, List.setIfInBounds_toArray, List.set_cons_zero, List.set_cons_succ]
            rfl
          refine pure_ (i := 5) (N := some 71) (v := ?_) (a' := ?_) #[true, true, true, true, true, true] rfl rfl (by kernel_rfl) (fun _ _ _ h => h) (Or.inl ⟨by rfl, ?_⟩) ?_ ?_
          rotate_left
          · intro w'
            go_simp
            with_reducible rfl
          rotate_left
          · simp only [Act.put, List.setIfInBounds_toArray, List.set_cons_zero, List.set_cons_succ]
            rfl
          refine done_ (by kernel_rfl) ?_
          have hBw : Below w.heap.size w wr.drew := below_drew (below_then FF2.out.below FF2.out.below.size (by rw [HX2.out]; exact HBj.out))
          have F5 : FAt w wr.drew g b cap bs.length p x := FF2.out.later (by rw [HX2.out]; exact below_drew HBj.out)
          have hX5 : wr.drew.heap[X]? = some (.cells #[.int .u64 (VP.fold m0 ((rest bs (p + 1)).take j) : Nat), .int .i64 ((j : Int) + 1), .func (.func 102) #[.pointer (some ⟨g, 0, none⟩)] #[]] 125 (0, 0)) := hXj
          clear x0 x1 y0 hXj HBj hHeld
          generalize wr.drew = w5 at *
          have x0 := blk_cell hX5 0
          have x1 := blk_cell hX5 1
          have x2 := blk_cell hX5 2
          simp only [List.getElem?_toArray, List.getElem?_cons_zero, List.getElem?_cons_succ] at x0 x1 x2
          obtain ⟨⟨q0, q1, q2⟩, z0, z1, z2⟩ := F5.cells
          have e0 : look (rest bs p) = if VP.wid (VP.fold m0 ((rest bs (p + 1)).take j)) = j + 1 then (VP.fold m0 ((rest bs (p + 1)).take j), j + 1, 0) else (0, 0, 11) := by
            rw [HRE.out, look_cons, HLD.out, HRL.out, HHD.out, if_neg hsh, Nat.add_sub_cancel, HM0.out]
          have HE := Lib.hid e0
          clear e0
          by_cases hw : VP.wid (VP.fold m0 ((rest bs (p + 1)).take j)) = j + 1
          · have hb1 : ((VP.wid (VP.fold m0 ((rest bs (p + 1)).take j)) : Int) != (j : Int) + 1) = false := by rw [hw]; simp
            have hb2 : ((VP.wid (VP.fold m0 ((rest bs (p + 1)).take j)) : Int) == (j : Int) + 1) = true := by rw [hw]; simp
            have HW := Lib.hid hw
            clear hw
            go_wp2
            rw [HE.out, if_pos HW.out]
            exact bodyPost_ret (v := .tuple #[.agg #[.int .u64 (VP.fold m0 ((rest bs (p + 1)).take j) : Nat), .int .i64 ((j : Int) + 1), .func (.func 102) #[.pointer (some ⟨g, 0, none⟩)] #[]], .int .i64 0]) (by simp [results, Tryz.results75, go_sem, q0, q1, q2]) rfl ⟨by simp [foundV], ((hBw.setCell (by simp) _).setCell (by simp) _).setCell (by simp) _⟩
          · have hb1 : ((VP.wid (VP.fold m0 ((rest bs (p + 1)).take j)) : Int) != (j : Int) + 1) = true := by simp; omega
            have hb2 : ((VP.wid (VP.fold m0 ((rest bs (p + 1)).take j)) : Int) == (j : Int) + 1) = false := by simp; omega
            have HW := Lib.hid hw
            clear hw
            go_wp2
            rw [HE.out, if_neg HW.out]
            exact bodyPost_ret (v := .tuple #[.agg #[.int .u64 0, .int .i64 0, .nilFunc], .int .i64 11]) (by simp [results, Tryz.results75, go_sem, q0, q1, q2]) rfl ⟨by simp [foundV], ((hBw.setCell (by simp) _).setCell (by simp) _).setCell (by simp) _⟩
theorem find_any (w : World) (g base : Nat) (v : Value) (bs : List Int) (p : Nat) (hR : ReelIs w g base v bs p) :
    Calls Tryz.prog 75 #[.pointer (some ⟨g, 0, none⟩)] w fun e w' => e = .returned (.tuple #[foundV g (look (rest bs p)), .int .i64 (look (rest bs p)).2.2]) ∧ Below w.heap.size w w' := by
  by_cases hlt : p < bs.length
  · rcases hR.own.2 with ⟨rfl, h0⟩ | ⟨b, cap, cur, rfl, _⟩
    · omega
    · exact find_some w g base b cap bs p hR hlt
  · have hle := hR.le
    obtain rfl : p = bs.length := by omega
    have e : look (rest bs bs.length) = (0, 0, 10) := by simp [rest, look]
    rw [e]
    exact find_end w g base v bs hR
end Go.Proofs.YtamagdnlicnefaaGreatDoor
namespace Go.Proofs.YtamagdnlicnefaaGreatDoor
open Go.RowKit Go.Shelf Go.Proofs.YtamagdnlicnefaaGreatDoorW.PrintWords Go.Proofs.YtamagdnlicnefaaGreatDoorW.PrintLast Go.Proofs.YtamagdnlicnefaaGreatDoorW.PrintMore

theorem ReelIs.below {w w' : World} {g base p : Nat} {v : Value} {bs : List Int} (h : ReelIs w g base v bs p) (hb : Below w.heap.size w w') : ReelIs w' g base v bs p :=
  ⟨(hb.block g (blk_lt h.blk)).trans h.blk, pw_own_below h.own hb, h.le, h.small, h.bytes⟩
theorem ReelIs.ne {W : World} {g base p : Nat} {v : Value} {bs : List Int} (h : ReelIs W g base v bs p) : v.ownBlock ≠ some g := fun e => own_ne h.own h.blk (by decide) e.symm
theorem ReelIs.move {w : World} {g base p q : Nat} {v : Value} {bs : List Int} (h : ReelIs w g base v bs p) (hq : q ≤ bs.length) : ReelIs (w.setCell ⟨g, 1, none⟩ (.int .i64 q)) g base v bs q :=
  ⟨by have := blk_set h.blk 1 (.int .i64 q); simpa using this, own_setCell h.own (Ne.symm h.ne) _, hq, h.small, h.bytes⟩
theorem move_any (w : World) (g base : Nat) (v : Value) (bs : List Int) (p k : Nat) (hR : ReelIs w g base v bs p) (hk : p + k ≤ bs.length) :
    Calls Tryz.prog 102 #[.pointer (some ⟨g, 0, none⟩), .int .i64 k] w fun e w' => e = .returned (.tuple #[]) ∧ ReelIs w' g base v bs (p + k) ∧ Fr (fun i => i = g) w w' := by
  have hc1 : w.cell? ⟨g, 1, none⟩ = some (.int .i64 p) := blk_cell hR.blk 1
  have hf1 := blk_frozen hR.blk 1
  have hs := hR.small
  have hp : (p : Int) + (k : Int) ≤ 140737488355328 := by omega
  have HM := hR.move (q := p + k) hk
  go_enter Tryz.func102, Tryz.ntmps102
  go_wp2
  go_end0
  refine ⟨rfl, ?_, (Fr.refl _ _).set _ _ (fun _ => rfl)⟩
  exact HM
theorem fold_add : ∀ (l : List Nat) (a : Nat), VP.fold a l = a * 256 ^ l.length + VP.fold 0 l
  | [], a => by simp [VP.fold]
  | c :: l, a => by
    have e : ∀ a, VP.fold a (c :: l) = VP.fold (256 * a + c) l := fun _ => rfl
    rw [e a, e 0, fold_add l (256 * a + c), fold_add l (256 * 0 + c), List.length_cons, Nat.pow_succ]
    rw [Nat.add_mul, Nat.mul_zero, Nat.zero_add, Nat.mul_comm 256 a, Nat.mul_assoc, Nat.mul_comm 256]
    omega
theorem be_fold : ∀ (l : List Nat) (a : Nat), (∀ b ∈ l, b < 256) → VP.be l.length (VP.fold a l) = l
  | [], _, _ => rfl
  | c :: l, a, h => by
    have hc := h c (by simp)
    have hl : ∀ b ∈ l, b < 256 := fun b hb => h b (by simp [hb])
    have e : VP.fold a (c :: l) = VP.fold (256 * a + c) l := rfl
    rw [e, List.length_cons, VP.be, be_fold l _ hl, fold_add]
    have h0 := fold_lt l 0 hl
    rw [Nat.zero_add, Nat.one_mul] at h0
    rw [Nat.add_comm, Nat.add_mul_div_right _ _ (Nat.pow_pos (by omega)), Nat.div_eq_of_lt h0]
    congr 1
    omega
theorem look_ok (l : List Nat) (hl : ∀ b ∈ l, b < 256) (h : (look l).2.2 = 0) :
    (look l).2.1 ≤ l.length ∧ (look l).1 < 18446744073709551616 ∧ VP.wid (look l).1 = (look l).2.1 ∧ l.take (look l).2.1 = VP.enc (look l).1 := by
  cases l with
  | nil => simp [look] at h
  | cons b t =>
    have hb := hl b (by simp)
    have ht : ∀ c ∈ t, c < 256 := fun c hc => hl c (by simp [hc])
    obtain ⟨k1, k2, k3, k4⟩ := VP.mark_lead b hb
    obtain ⟨L, hL⟩ : ∃ L, VP.lead b = L + 1 := ⟨VP.lead b - 1, by omega⟩
    rw [look_cons] at h ⊢
    rw [hL] at h k1 k2 k3 k4 ⊢
    by_cases h1 : t.length + 1 < L + 1
    · rw [if_pos h1] at h; simp at h
    · rw [if_neg h1] at h ⊢
      simp only [Nat.add_sub_cancel] at *
      by_cases h2 : VP.wid (VP.fold (b - VP.mark (L + 1)) (t.take L)) = L + 1
      · rw [if_pos h2]
        have hlen : (t.take L).length = L := by rw [List.length_take]; omega
        have hlt : ∀ c ∈ t.take L, c < 256 := fun c hc => ht c (List.mem_of_mem_take hc)
        have h7 : L < 8 → b - VP.mark (L + 1) < 2 ^ (7 - L) := by
          intro h8
          have h3 := k2 (by omega)
          have hc : L = 0 ∨ L = 1 ∨ L = 2 ∨ L = 3 ∨ L = 4 ∨ L = 5 ∨ L = 6 ∨ L = 7 := by omega
          clear h h1 h2 k2 k4 hlen hlt hL
          rcases hc with rfl | rfl | rfl | rfl | rfl | rfl | rfl | rfl <;> (simp only [VP.mark, Nat.reduceSub, Nat.reducePow, Nat.reduceAdd] at k1 h3 ⊢; omega)
        have h8 : L = 8 → b - VP.mark (L + 1) = 0 := by
          rintro rfl
          simp only [VP.mark, Nat.reduceSub, Nat.reducePow, Nat.reduceAdd] at k1 ⊢; omega
        have hs := (fold_small _ L L _ hlt hlen (Nat.le_refl _) (by omega) h7 h8).1
        refine ⟨by simp; omega, hs, h2, ?_⟩
        have hbe := be_fold (t.take L) (b - VP.mark (L + 1)) hlt
        rw [hlen] at hbe
        show List.take (L + 1) (b :: t) = VP.enc (VP.fold (b - VP.mark (L + 1)) (t.take L))
        unfold VP.enc VP.first
        rw [h2, Nat.add_sub_cancel, hbe, List.take_succ_cons]
        congr 1
        have h0 := fold_lt (t.take L) 0 hlt
        rw [Nat.zero_add, Nat.one_mul, hlen] at h0
        rw [fold_add, hlen, Nat.add_comm (_ * _), Nat.add_mul_div_right _ _ (Nat.pow_pos (by omega)), Nat.div_eq_of_lt h0]
        omega
      · rw [if_neg h2] at h; simp at h
def readN (l : List Nat) (most : Int) : Nat × Nat × Nat :=
  if (look l).2.2 = 0 then (if most < (look l).1 then (0, 12, 0) else ((look l).1, 0, (look l).2.1)) else (0, (look l).2.2, 0)
theorem look_wide (bs : List Int) (p : Nat) (hp : p ≤ bs.length) (hb : ∀ b ∈ bs, 0 ≤ b ∧ b ≤ 255) (h : (look (rest bs p)).2.2 = 0) : p + (look (rest bs p)).2.1 ≤ bs.length ∧ (look (rest bs p)).1 < 18446744073709551616 := by
  obtain ⟨h1, h2, _⟩ := look_ok _ (rest_lt bs hb p) h
  have : (rest bs p).length = bs.length - p := by simp [rest]
  exact ⟨by omega, h2⟩
set_option maxHeartbeats 1000000 in
theorem RNumber_any (w : World) (g base : Nat) (v : Value) (bs : List Int) (p : Nat) (most : Int) (hR : ReelIs w g base v bs p) :
    Calls Tryz.prog 53 #[.pointer (some ⟨g, 0, none⟩), .int .u64 most] w fun e w' => e = .returned (.tuple #[.int .u64 (readN (rest bs p) most).1, .int .i64 (readN (rest bs p) most).2.1]) ∧
      ReelIs w' g base v bs (p + (readN (rest bs p) most).2.2) ∧ Fr (fun i => i = g) w w' := by
  by_cases he : (look (rest bs p)).2.2 = 0
  · obtain ⟨hw1, hw2⟩ := look_wide bs p hR.le hR.bytes he
    have hf := find_any w g base v bs p hR
    have ef : foundV g (look (rest bs p)) = .agg #[.int .u64 (look (rest bs p)).1, .int .i64 (look (rest bs p)).2.1, .func (.func 102) #[.pointer (some ⟨g, 0, none⟩)] #[]] := by unfold foundV; rw [if_pos he]
    rw [ef, he] at hf
    by_cases hm : most < (look (rest bs p)).1
    · have e : readN (rest bs p) most = (0, 12, 0) := by unfold readN; rw [if_pos he, if_pos hm]
      rw [e]
      generalize (look (rest bs p)).1 = n at *
      generalize (look (rest bs p)).2.1 = k at *
      have HF := Lib.hid hf
      clear hf he e ef
      go_enter Tryz.func53, Tryz.ntmps53
      go_wp2_with (go_at_call 75; refine HF.out.mono ?_; rintro e w1 ⟨rfl, hb⟩)
      go_ret2
      have hb2 := hb.trans ((below_alloc (Below.refl _ w1) (.cells #[.int .u64 n, .int .i64 k, .func (.func 102) #[.pointer (some ⟨g, 0, none⟩)] #[]] 125)).mono hb.size)
      exact ⟨rfl, hR.below hb2, Fr.of_below hb2⟩
    · have e : readN (rest bs p) most = ((look (rest bs p)).1, 0, (look (rest bs p)).2.1) := by unfold readN; rw [if_pos he, if_neg hm]
      rw [e]
      generalize (look (rest bs p)).1 = n at *
      generalize (look (rest bs p)).2.1 = k at *
      have HF := Lib.hid hf
      clear hf he e ef
      go_enter Tryz.func53, Tryz.ntmps53
      go_wp2_with (go_at_call 75; refine HF.out.mono ?_; rintro e w1 ⟨rfl, hb⟩)
      have hb2 := hb.trans ((below_alloc (Below.refl _ w1) (.cells #[.int .u64 n, .int .i64 k, .func (.func 102) #[.pointer (some ⟨g, 0, none⟩)] #[]] 125)).mono hb.size)
      have hR2 := hR.below hb2
      have hX := World.alloc_heap_new w1 (.cells #[.int .u64 n, .int .i64 k, .func (.func 102) #[.pointer (some ⟨g, 0, none⟩)] #[]] 125)
      have hgl : g < w1.heap.size := by have := blk_lt hR.blk; have := hb.size; omega
      refine (move_any _ g base v bs p k hR2 (by omega)).mono ?_
      rintro e w3 ⟨rfl, hR3, hF3⟩
      have hX3 := (hF3.block w1.heap.size (by simp) (by omega)).trans hX
      have x0 := blk_cell hX3 0
      simp only [List.getElem?_toArray, List.getElem?_cons_zero] at x0
      go_wp2
      go_ret2
      exact ⟨rfl, hR3, (Fr.of_below hb2 : Fr (fun i => i = g) w _).trans hF3 (fun _ _ h => h)⟩
  · have e : readN (rest bs p) most = (0, (look (rest bs p)).2.2, 0) := by unfold readN; rw [if_neg he]
    rw [e]
    have hf := find_any w g base v bs p hR
    have ef : foundV g (look (rest bs p)) = .agg #[.int .u64 0, .int .i64 0, .nilFunc] := by unfold foundV; rw [if_neg he]
    rw [ef] at hf
    generalize (look (rest bs p)).2.2 = k at *
    have hk : ((k : Int) != 0) = true := by simp; omega
    have HF := Lib.hid hf
    clear hf he e ef
    go_enter Tryz.func53, Tryz.ntmps53
    go_wp2_with (go_at_call 75; refine HF.out.mono ?_; rintro e w1 ⟨rfl, hb⟩)
    go_ret2
    have hb2 := hb.trans ((below_alloc (Below.refl _ w1) (.cells #[.int .u64 0, .int .i64 0, .nilFunc] 125)).mono hb.size)
    exact ⟨rfl, hR.below hb2, Fr.of_below hb2⟩
def readS (l : List Nat) (least most : Int) : Int × Nat × Nat :=
  if (look l).2.2 = 0 then (if zag (look l).1 < least ∨ most < zag (look l).1 then (0, 12, 0) else (zag (look l).1, 0, (look l).2.1)) else (0, (look l).2.2, 0)
set_option maxHeartbeats 1000000 in
theorem RSigned_any (w : World) (g base : Nat) (v : Value) (bs : List Int) (p : Nat) (least most : Int) (hR : ReelIs w g base v bs p) :
    Calls Tryz.prog 76 #[.pointer (some ⟨g, 0, none⟩), .int .i64 least, .int .i64 most] w fun e w' => e = .returned (.tuple #[.int .i64 (readS (rest bs p) least most).1, .int .i64 (readS (rest bs p) least most).2.1]) ∧
      ReelIs w' g base v bs (p + (readS (rest bs p) least most).2.2) ∧ Fr (fun i => i = g) w w' := by
  by_cases he : (look (rest bs p)).2.2 = 0
  · obtain ⟨hw1, hw2⟩ := look_wide bs p hR.le hR.bytes he
    have hf := find_any w g base v bs p hR
    have ef : foundV g (look (rest bs p)) = .agg #[.int .u64 (look (rest bs p)).1, .int .i64 (look (rest bs p)).2.1, .func (.func 102) #[.pointer (some ⟨g, 0, none⟩)] #[]] := by unfold foundV; rw [if_pos he]
    rw [ef, he] at hf
    by_cases hm : zag (look (rest bs p)).1 < least ∨ most < zag (look (rest bs p)).1
    · have e : readS (rest bs p) least most = (0, 12, 0) := by unfold readS; rw [if_pos he, if_pos hm]
      rw [e]
      generalize (look (rest bs p)).1 = n at *
      generalize (look (rest bs p)).2.1 = k at *
      have HF := Lib.hid hf
      have HZ := Lib.hid (fun w => Zag_any n hw2 w)
      clear hf he e ef
      generalize zag n = z at *
      by_cases h1 : z < least
      all_goals
        go_enter Tryz.func76, Tryz.ntmps76
        go_wp2_with (first | (go_at_call 75; refine HF.out.mono ?_; rintro e w1 ⟨rfl, hb⟩) | (go_at_call 105; refine (HZ.out _).mono ?_; rintro e w' ⟨rfl, rfl⟩))
        go_ret2
        have hb2 := hb.trans ((below_alloc (Below.refl _ w1) (.cells #[.int .u64 n, .int .i64 k, .func (.func 102) #[.pointer (some ⟨g, 0, none⟩)] #[]] 125)).mono hb.size)
        exact ⟨rfl, hR.below hb2, Fr.of_below hb2⟩
    · have e : readS (rest bs p) least most = (zag (look (rest bs p)).1, 0, (look (rest bs p)).2.1) := by unfold readS; rw [if_pos he, if_neg hm]
      rw [e]
      have hm1 : ¬ zag (look (rest bs p)).1 < least := fun h => hm (.inl h)
      have hm2 : ¬ most < zag (look (rest bs p)).1 := fun h => hm (.inr h)
      generalize (look (rest bs p)).1 = n at *
      generalize (look (rest bs p)).2.1 = k at *
      have HF := Lib.hid hf
      have HZ := Lib.hid (fun w => Zag_any n hw2 w)
      clear hf he e ef hm
      generalize zag n = z at *
      go_enter Tryz.func76, Tryz.ntmps76
      go_wp2_with (first | (go_at_call 75; refine HF.out.mono ?_; rintro e w1 ⟨rfl, hb⟩) | (go_at_call 105; refine (HZ.out _).mono ?_; rintro e w' ⟨rfl, rfl⟩))
      have hb2 := hb.trans ((below_alloc (Below.refl _ w1) (.cells #[.int .u64 n, .int .i64 k, .func (.func 102) #[.pointer (some ⟨g, 0, none⟩)] #[]] 125)).mono hb.size)
      have hR2 := hR.below hb2
      have hX := World.alloc_heap_new w1 (.cells #[.int .u64 n, .int .i64 k, .func (.func 102) #[.pointer (some ⟨g, 0, none⟩)] #[]] 125)
      have hgl : g < w1.heap.size := by have := blk_lt hR.blk; have := hb.size; omega
      refine (move_any _ g base v bs p k hR2 (by omega)).mono ?_
      rintro e w3 ⟨rfl, hR3, hF3⟩
      have hX3 := (hF3.block w1.heap.size (by simp) (by omega)).trans hX
      have x0 := blk_cell hX3 0
      simp only [List.getElem?_toArray, List.getElem?_cons_zero] at x0
      go_wp2
      go_ret2
      exact ⟨rfl, hR3, (Fr.of_below hb2 : Fr (fun i => i = g) w _).trans hF3 (fun _ _ h => h)⟩
  · have e : readS (rest bs p) least most = (0, (look (rest bs p)).2.2, 0) := by unfold readS; rw [if_neg he]
    rw [e]
    have hf := find_any w g base v bs p hR
    have ef : foundV g (look (rest bs p)) = .agg #[.int .u64 0, .int .i64 0, .nilFunc] := by unfold foundV; rw [if_neg he]
    rw [ef] at hf
    generalize (look (rest bs p)).2.2 = k at *
    have hk : ((k : Int) != 0) = true := by simp; omega
    have HF := Lib.hid hf
    have HZ := Lib.hid (fun w => Zag_any 0 (by omega) w)
    clear hf he e ef
    go_enter Tryz.func76, Tryz.ntmps76
    go_wp2_with (first | (go_at_call 75; refine HF.out.mono ?_; rintro e w1 ⟨rfl, hb⟩) | (go_at_call 105; refine (HZ.out _).mono ?_; rintro e w' ⟨rfl, rfl⟩))
    go_ret2
    have hb2 := hb.trans ((below_alloc (Below.refl _ w1) (.cells #[.int .u64 0, .int .i64 0, .nilFunc] 125)).mono hb.size)
    exact ⟨rfl, hR.below hb2, Fr.of_below hb2⟩
theorem Clone_any (A : Option Addr) (c : Nat) (bs : List Int) (w : World) (hbs : (Kd.int .u8).C w A bs.length bs) (hl : bs.length ≤ 140737488355328) :
    Calls Tryz.prog 55 #[.slice A bs.length c] w fun e w' => ∃ v, e = .returned v ∧ w'.ownsRow w.heap.size 5 1 v bs.length (nums .u8 bs) ∧ Below w.heap.size w w' := by
  cases A with
  | none =>
    have h0 : bs.length = 0 := by
      rcases Nat.eq_zero_or_pos bs.length with h | h
      · exact h
      · obtain ⟨_, e, _⟩ := hbs.2.2 h; cases e
    obtain rfl : bs = [] := List.eq_nil_of_length_eq_zero h0
    refine (Tryz.bytes_Clone_nil _ _ _).mono ?_
    rintro e w' ⟨rfl, rfl⟩
    exact ⟨_, rfl, World.ownsRow_nil _ _ _ _, Below.refl _ _⟩
  | some a =>
    refine (Tryz.bytes_Clone_at a bs.length c bs w rfl hl (fun i hi => ?_)).mono ?_
    · obtain ⟨ad, e, h⟩ := Kd.at_int hbs i (by omega) (by omega)
      cases e
      simpa [rd] using h
    · rintro e w' ⟨v, rfl, h1, _, h2⟩
      exact ⟨v, rfl, h1, h2⟩
theorem On_any (A : Option Addr) (c : Nat) (bs : List Int) (w : World) (hbs : (Kd.int .u8).C w A bs.length bs) (hl : bs.length ≤ 140737488355328) (hb : ∀ b ∈ bs, 0 ≤ b ∧ b ≤ 255) :
    Calls Tryz.prog 31 #[.slice A bs.length c] w fun e w' => ∃ g v, e = .returned (.pointer (some ⟨g, 0, none⟩)) ∧ w.heap.size ≤ g ∧ ReelIs w' g w.heap.size v bs 0 ∧ Below w.heap.size w w' := by
  have HC := Lib.hid (Clone_any A c bs w hbs hl)
  clear hbs
  go_enter Tryz.func31, Tryz.ntmps31
  go_wp2_with fail
  refine HC.out.mono ?_
  rintro e w1 ⟨v, rfl, ho, hb1⟩
  obtain ⟨A1, c1, rfl⟩ := own_slice ho
  go_wp2
  go_ret
  refine ⟨_, _, rfl, hb1.size, ⟨World.alloc_heap_new _ _, pw_own_below ho (below_alloc (Below.refl _ _) _), Nat.zero_le _, hl, hb⟩, hb1.trans ((below_alloc (Below.refl _ _) _).mono hb1.size)⟩
end Go.Proofs.YtamagdnlicnefaaGreatDoor
namespace Go.Proofs.YtamagdnlicnefaaGreatDoor
open Go.RowKit Go.Shelf Go.Proofs.YtamagdnlicnefaaGreatDoorW.PrintWords Go.Proofs.YtamagdnlicnefaaGreatDoorW.PrintLast Go.Proofs.YtamagdnlicnefaaGreatDoorW.PrintMore

theorem row_C {w : World} {base : Nat} {A : Option Addr} {n c : Nat} {bs : List Int} (h : w.ownsRow base 5 1 (.slice A n c) bs.length (nums .u8 bs)) : n = bs.length ∧ n ≤ c ∧ (Kd.int .u8).C w A bs.length bs :=
  Kd.R_reads' (Kd.R_of_own (ok := fun _ => True) h (fun _ _ => trivial))
theorem look_code (l : List Nat) : (look l).2.2 = 0 ∨ (look l).2.2 = 10 ∨ (look l).2.2 = 11 := by
  cases l with
  | nil => exact .inr (.inl rfl)
  | cons b t =>
    rw [look_cons]
    split
    · exact .inr (.inl rfl)
    · split
      · exact .inl rfl
      · exact .inr (.inr rfl)
theorem string_read {W : World} {A : Option Addr} {n c : Nat} {xs : List Int} (h : (Kd.int .u8).C W A n xs) : (convert 56 9 (.slice A n c)).run Tryz.prog W = .ok (.string (strOfNums xs)) W :=
  Kd.C_string Tryz.underlying56 Tryz.underlying5 Tryz.underlying9 h
end Go.Proofs.YtamagdnlicnefaaGreatDoor
